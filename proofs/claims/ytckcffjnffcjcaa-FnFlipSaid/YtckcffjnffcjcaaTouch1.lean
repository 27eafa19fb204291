/- Contract of the reference's Touch. No conditions. -/
import Derived.Test.YtckcffjnffcjcaaParts
import Derived.Test.YtckcffjnffcjcaaLib
set_option linter.unusedVariables false
set_option linter.unusedSimpArgs false
namespace Go.Proofs.Ytckcffjnffcjcaa
open Go.RowKit Go.Proofs.YtckcffjnffcjcaaW.PrintWords
def touchP (a b : PartT) : Bool := decide (a.piece = b.piece ∧ a.frm ≤ b.upto ∧ b.frm ≤ a.upto)
def touchB (a b : List PartT) : Bool := partsOk a && partsOk b && a.any (fun x => b.any (touchP x))
theorem touch_bad1 {a b : List PartT} (h : partsOk a = false) : touchB a b = false := by unfold touchB; rw [h]; rfl
theorem touch_bad2 {a b : List PartT} (h1 : partsOk a = true) (h : partsOk b = false) : touchB a b = false := by unfold touchB; rw [h1, h]; rfl
theorem touch_yes {a b : List PartT} (h1 : partsOk a = true) (h2 : partsOk b = true) {i k : Nat} (hi : i < a.length) (hk : k < b.length) (h : touchP (a.getD i default) (b.getD k default) = true) : touchB a b = true := by
  unfold touchB
  rw [h1, h2, Bool.true_and, Bool.true_and, List.any_eq_true]
  exact ⟨_, getD_mem a i hi, List.any_eq_true.2 ⟨_, getD_mem b k hk, h⟩⟩
theorem touch_no {a b : List PartT} (h : ∀ i, i < a.length → ∀ k, k < b.length → touchP (a.getD i default) (b.getD k default) = false) : touchB a b = false := by
  unfold touchB
  have : a.any (fun x => b.any (touchP x)) = false := by
    rw [List.any_eq_false]
    intro x hx hb
    obtain ⟨y, hy, hxy⟩ := List.any_eq_true.1 hb
    obtain ⟨i, hi, rfl⟩ := List.mem_iff_getElem.1 hx
    obtain ⟨k, hk, rfl⟩ := List.mem_iff_getElem.1 hy
    have := h i hi k hk
    rw [getD_at a i hi, getD_at b k hk, hxy] at this
    cases this
  rw [this, Bool.and_false]
set_option maxRecDepth 100000 in
set_option maxHeartbeats 4000000 in
theorem specTouch_any (A0 : Option Addr) (c0 : Nat) (a : List PartT) (A1 : Option Addr) (c1 : Nat) (b : List PartT) (w : World) (hr0 : Kd.C kPart w A0 a.length a) (hr1 : Kd.C kPart w A1 b.length b) :
    Calls Try.prog 31 #[.slice A0 a.length c0, .slice A1 b.length c1] w fun e w' => e = .returned (.bool (touchB a b)) ∧ Below w.heap.size w w' := by
  have hm0 := hr0.2.1
  have hm1 := hr1.2.1
  have H0 := Aside0.mk hr0
  have H1 := Aside0.mk hr1
  clear hr0 hr1
  cases h1 : partsOk a with
  | false =>
    have HV := Aside0.mk (touch_bad1 (b := b) h1)
    have HA := Aside0.mk h1
    clear h1
    go_enter Try.func31, Try.ntmps31
    go_wp2_with (go_at_call 104; refine (l3parts_any A0 c0 a _ H0.out).mono ?_; rintro e w3 ⟨rfl, hb3⟩; rw [HA.out]; have B3 := Aside0.mk hb3; clear hb3)
    go_ret
    exact ⟨by rw [HV.out]; rfl, B3.out⟩
  | true =>
    cases h2 : partsOk b with
    | false =>
      have HV := Aside0.mk (touch_bad2 h1 h2)
      have HA := Aside0.mk h1
      have HB := Aside0.mk h2
      clear h1 h2
      go_enter Try.func31, Try.ntmps31
      go_wp2_with fail
      refine Calls.mono (l3parts_any A0 c0 a _ H0.out) ?_
      rintro e w3 ⟨rfl, hb3⟩
      rw [HA.out]
      have B3 := Aside0.mk hb3
      clear hb3
      go_wp2_with fail
      refine Calls.mono (l3parts_any A1 c1 b _ (Kd.C_below H1.out B3.out)) ?_
      rintro e w4 ⟨rfl, hb4⟩
      rw [HB.out]
      have B4 := Aside0.mk (below_more B3.out hb4)
      clear hb4
      go_wp2_with fail
      go_ret
      exact ⟨by rw [HV.out]; rfl, B4.out⟩
    | true =>
      have HY := Aside0.mk (show ∀ {i k : Nat}, i < a.length → k < b.length → touchP (a.getD i default) (b.getD k default) = true → touchB a b = true from fun hi hk h => touch_yes h1 h2 hi hk h)
      have HA := Aside0.mk h1
      have HB := Aside0.mk h2
      clear h1 h2
      go_enter Try.func31, Try.ntmps31
      go_wp2_with fail
      refine Calls.mono (l3parts_any A0 c0 a _ H0.out) ?_
      rintro e w3 ⟨rfl, hb3⟩
      rw [HA.out]
      have B3 := Aside0.mk hb3
      clear hb3
      go_wp2_with fail
      refine Calls.mono (l3parts_any A1 c1 b _ (Kd.C_below H1.out B3.out)) ?_
      rintro e w4 ⟨rfl, hb4⟩
      rw [HB.out]
      have B4 := Aside0.mk (below_more B3.out hb4)
      clear hb4
      go_wp2_with fail
      go_loopw [19] (fun v19 wr => ∃ i : Nat, v19 = .int .i64 i ∧ i ≤ a.length ∧ Aside0 (∀ q, q < i → ∀ k, k < b.length → touchP (a.getD q default) (b.getD k default) = false) ∧ Aside0 (Below w.heap.size w wr)) (fun v19 _ => a.length - (intOf v19).toNat)
      case atStart => exact ⟨0, rfl, Nat.zero_le _, ⟨fun q hq => by omega⟩, B4⟩
      case round =>
        obtain ⟨i, rfl, hi, HT, HB2⟩ := hrel
        by_cases hlt : i < a.length
        · obtain ⟨ad0, e0, x0, x1, x2⟩ := at_Part H0.out i hlt
          subst e0
          replace x0 := pw_cell_below HB2.out x0
          replace x1 := pw_cell_below HB2.out x1
          replace x2 := pw_cell_below HB2.out x2
          obtain ⟨p, hp⟩ : ∃ p, p = a.getD i default := ⟨_, rfl⟩
          rw [← hp] at x0 x1 x2
          have HP := Aside0.mk hp
          clear hp
          go_wp2
          obtain ⟨W5, hW5⟩ : ∃ W5, W5 = wr.alloc (.cells #[.int .i64 p.piece, .int .i64 p.frm, .int .i64 p.upto] 89) := ⟨_, rfl⟩
          obtain ⟨g, hgq⟩ : ∃ g, g = wr.heap.size := ⟨_, rfl⟩
          have B5 : Aside0 (Below w.heap.size w W5) := ⟨by rw [hW5]; exact below_alloc HB2.out _⟩
          have X5 : Aside0 (Bx W5 g [.int .i64 p.piece, .int .i64 p.frm, .int .i64 p.upto]) := ⟨by rw [hW5, hgq]; exact Bx.new wr _ 89⟩
          rw [← hW5]
          try rw [← hgq]
          clear hW5 hgq x0 x1 x2
          go_loopw [25] (fun v25 wq => ∃ k : Nat, v25 = .int .i64 k ∧ k ≤ b.length ∧ Aside0 (∀ q, q < k → touchP p (b.getD q default) = false) ∧ Aside0 (Below w.heap.size w wq) ∧ Aside0 (Bx wq g [.int .i64 p.piece, .int .i64 p.frm, .int .i64 p.upto])) (fun v25 _ => b.length - (intOf v25).toNat)
          case atStart => exact ⟨0, rfl, Nat.zero_le _, ⟨fun q hq => by omega⟩, B5, X5⟩
          case round =>
            clear X5 B5
            obtain ⟨k, rfl, hk, HT2, HB3, X5⟩ := hrel
            by_cases hlt2 : k < b.length
            · obtain ⟨ad1, e1, y0, y1, y2⟩ := at_Part H1.out k hlt2
              subst e1
              replace y0 := pw_cell_below HB3.out y0
              replace y1 := pw_cell_below HB3.out y1
              replace y2 := pw_cell_below HB3.out y2
              obtain ⟨q, hq⟩ : ∃ q, q = b.getD k default := ⟨_, rfl⟩
              rw [← hq] at y0 y1 y2
              have HQ := Aside0.mk hq
              clear hq
              have X6 := Aside0.mk (X5.out.alloc (.cells #[.int .i64 q.piece, .int .i64 q.frm, .int .i64 q.upto] 89))
              have B6 := Aside0.mk (below_alloc HB3.out (.cells #[.int .i64 q.piece, .int .i64 q.frm, .int .i64 q.upto] 89))
              have g0 := X6.out.c 0 _ rfl; have g1 := X6.out.c 1 _ rfl; have g2 := X6.out.c 2 _ rfl
              by_cases c1 : p.piece = q.piece ∧ p.frm ≤ q.upto ∧ q.frm ≤ p.upto
              · have HV := Aside0.mk (HY.out hlt hlt2 (by rw [← HP.out, ← HQ.out]; exact decide_eq_true c1))
                obtain ⟨c2, c3, c4⟩ := c1
                have c5 : (p.piece == q.piece) = true := by simpa using c2
                clear c2
                go_wp2
                go_ret
                exact ⟨by rw [HV.out]; rfl, B6.out⟩
              · have HN := Aside0.mk (show touchP p (b.getD k default) = false by rw [← HQ.out]; exact decide_eq_false c1)
                by_cases d1 : p.piece = q.piece
                · have d5 : (p.piece == q.piece) = true := by simpa using d1
                  by_cases d2 : p.frm ≤ q.upto
                  · have d3 : ¬ q.frm ≤ p.upto := fun h => c1 ⟨d1, d2, h⟩
                    clear c1 d1
                    go_wp2
                    go_roundw
                    case rel => exact ⟨k + 1, by go_num, by omega, ⟨upto_step HT2.out HN.out⟩, B6, X6⟩
                    case measure => simp [intOf]; omega
                  · clear c1 d1
                    go_wp2
                    go_roundw
                    case rel => exact ⟨k + 1, by go_num, by omega, ⟨upto_step HT2.out HN.out⟩, B6, X6⟩
                    case measure => simp [intOf]; omega
                · have d5 : (p.piece == q.piece) = false := by simpa using d1
                  clear c1 d1
                  go_wp2
                  go_roundw
                  case rel => exact ⟨k + 1, by go_num, by omega, ⟨upto_step HT2.out HN.out⟩, B6, X6⟩
                  case measure => simp [intOf]; omega
            · go_wp2
              go_roundw
              case rel => exact ⟨i + 1, by go_num, by omega, ⟨upto_step HT.out (fun k2 hk2 => by rw [← HP.out]; exact HT2.out k2 (by omega))⟩, HB3⟩
              case measure => simp [intOf]; omega
        · have HV := Aside0.mk (touch_no (fun q hq => HT.out q (by omega)))
          go_wp2
          go_ret
          exact ⟨by rw [HV.out]; rfl, HB2.out⟩
end Go.Proofs.Ytckcffjnffcjcaa
