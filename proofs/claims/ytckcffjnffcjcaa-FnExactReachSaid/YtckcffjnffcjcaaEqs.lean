/- Contracts of the laws' comparisons: eqX answers whether two values are one, eqXS whether two lists are. No conditions. -/
import Derived.Test.YtckcffjnffcjcaaLib
set_option linter.unusedVariables false
set_option linter.unusedSimpArgs false
namespace Go.Proofs.Ytckcffjnffcjcaa
open Go.RowKit Go.Proofs.YtckcffjnffcjcaaW.PrintWords

theorem eqEnd_any (p q : EndT) (w : World) :
    Calls Try.prog 137 #[.agg #[.int .i64 p.piece, .int .i64 p.side], .agg #[.int .i64 q.piece, .int .i64 q.side]] w fun e w' => e = .returned (.bool (decide (p = q))) ∧ Below w.heap.size w w' := by
  go_enter Try.func137, Try.ntmps137
  go_wp2
  all_goals
    go_ret
    refine ⟨?_, below_two _ _ _⟩
    rw [show decide (p = q) = decide (p.piece = q.piece ∧ p.side = q.side) from decide_eq_decide.2 EndT.ext_iff.symm]
    simp_all [toList_inj]
theorem eqPiece_any (p q : PieceT) (w : World) :
    Calls Try.prog 177 #[.agg #[.string p.name, .int .i64 p.len, .int .i64 p.speed, .int .i64 p.brake], .agg #[.string q.name, .int .i64 q.len, .int .i64 q.speed, .int .i64 q.brake]] w fun e w' => e = .returned (.bool (decide (p = q))) ∧ Below w.heap.size w w' := by
  go_enter Try.func177, Try.ntmps177
  go_wp2
  all_goals
    go_ret
    refine ⟨?_, below_two _ _ _⟩
    rw [show decide (p = q) = decide (p.name = q.name ∧ p.len = q.len ∧ p.speed = q.speed ∧ p.brake = q.brake) from decide_eq_decide.2 PieceT.ext_iff.symm]
    simp_all [toList_inj]
theorem eqSpot_any (p q : SpotT) (w : World) :
    Calls Try.prog 55 #[.agg #[.int .i64 p.piece, .int .i64 p.at_, .int .i64 p.way], .agg #[.int .i64 q.piece, .int .i64 q.at_, .int .i64 q.way]] w fun e w' => e = .returned (.bool (decide (p = q))) ∧ Below w.heap.size w w' := by
  go_enter Try.func55, Try.ntmps55
  go_wp2
  all_goals
    go_ret
    refine ⟨?_, below_two _ _ _⟩
    rw [show decide (p = q) = decide (p.piece = q.piece ∧ p.at_ = q.at_ ∧ p.way = q.way) from decide_eq_decide.2 SpotT.ext_iff.symm]
    simp_all [toList_inj]
theorem eqPart_any (p q : PartT) (w : World) :
    Calls Try.prog 107 #[.agg #[.int .i64 p.piece, .int .i64 p.frm, .int .i64 p.upto], .agg #[.int .i64 q.piece, .int .i64 q.frm, .int .i64 q.upto]] w fun e w' => e = .returned (.bool (decide (p = q))) ∧ Below w.heap.size w w' := by
  go_enter Try.func107, Try.ntmps107
  go_wp2
  all_goals
    go_ret
    refine ⟨?_, below_two _ _ _⟩
    rw [show decide (p = q) = decide (p.piece = q.piece ∧ p.frm = q.frm ∧ p.upto = q.upto) from decide_eq_decide.2 PartT.ext_iff.symm]
    simp_all [toList_inj]
theorem eqStep_any (p q : StepT) (w : World) :
    Calls Try.prog 150 #[.agg #[.int .i64 p.piece, .int .i64 p.way], .agg #[.int .i64 q.piece, .int .i64 q.way]] w fun e w' => e = .returned (.bool (decide (p = q))) ∧ Below w.heap.size w w' := by
  go_enter Try.func150, Try.ntmps150
  go_wp2
  all_goals
    go_ret
    refine ⟨?_, below_two _ _ _⟩
    rw [show decide (p = q) = decide (p.piece = q.piece ∧ p.way = q.way) from decide_eq_decide.2 StepT.ext_iff.symm]
    simp_all [toList_inj]
theorem eqLie_any (p q : LieT) (w : World) :
    Calls Try.prog 149 #[.agg #[.int .i64 p.joint, .int .i64 p.lie], .agg #[.int .i64 q.joint, .int .i64 q.lie]] w fun e w' => e = .returned (.bool (decide (p = q))) ∧ Below w.heap.size w w' := by
  go_enter Try.func149, Try.ntmps149
  go_wp2
  all_goals
    go_ret
    refine ⟨?_, below_two _ _ _⟩
    rw [show decide (p = q) = decide (p.joint = q.joint ∧ p.lie = q.lie) from decide_eq_decide.2 LieT.ext_iff.symm]
    simp_all [toList_inj]
set_option maxRecDepth 100000 in
theorem eqPieceS_any (A0 : Option Addr) (c0 : Nat) (l0 : List PieceT) (A1 : Option Addr) (c1 : Nat) (l1 : List PieceT) (w : World)
    (hr0 : Kd.C kPiece w A0 l0.length l0) (hr1 : Kd.C kPiece w A1 l1.length l1) :
    Calls Try.prog 126 #[.slice A0 l0.length c0, .slice A1 l1.length c1] w
      fun e w' => e = .returned (.bool (decide (l0 = l1))) ∧ Below w.heap.size w w' := by
  have hm0 := hr0.2.1
  have hm1 := hr1.2.1
  have HR0 := Aside0.mk hr0
  have HR1 := Aside0.mk hr1
  clear hr0 hr1
  by_cases hl : l0.length = l1.length
  · have hb : ((l0.length : Int) != (l1.length : Int)) = false := by simp [hl]
    have hb2 : (l0.length != l1.length) = false := by simp [hl]
    have HL := Aside0.mk hl
    clear hl
    go_enter Try.func126, Try.ntmps126
    go_wp2
    clear hb hb2
    go_loopw [5] (fun v5 wr => ∃ i : Nat, v5 = .int .i64 i ∧ i ≤ l0.length ∧ Aside0 (l0.take i = l1.take i) ∧ Aside0 (Below w.heap.size w wr)) (fun v5 _ => l0.length - (intOf v5).toNat)
    case atStart => exact ⟨0, rfl, Nat.zero_le _, ⟨by simp⟩, ⟨Below.refl _ _⟩⟩
    case round =>
      obtain ⟨i, rfl, hi, HT, HB⟩ := hrel
      by_cases hlt : i < l0.length
      · have hlt1 : i < l1.length := by rw [← HL.out]; exact hlt
        obtain ⟨ad0, e0, x0, x1, x2, x3⟩ := at_Piece HR0.out i hlt
        obtain ⟨ad1, e1, y0, y1, y2, y3⟩ := at_Piece HR1.out i hlt1
        subst e0 e1
        replace x0 := pw_cell_below HB.out x0
        replace x1 := pw_cell_below HB.out x1
        replace x2 := pw_cell_below HB.out x2
        replace x3 := pw_cell_below HB.out x3
        replace y0 := pw_cell_below HB.out y0
        replace y1 := pw_cell_below HB.out y1
        replace y2 := pw_cell_below HB.out y2
        replace y3 := pw_cell_below HB.out y3
        obtain ⟨p, hp⟩ : ∃ p, p = l0.getD i default := ⟨_, rfl⟩
        obtain ⟨q, hq⟩ : ∃ q, q = l1.getD i default := ⟨_, rfl⟩
        rw [← hp] at x0 x1 x2 x3
        rw [← hq] at y0 y1 y2 y3
        have HP := Aside0.mk hp
        have HQ := Aside0.mk hq
        clear hp hq
        go_wp2
        go_still_tail 8, (by kernel_rfl)
        change wpList _ _ _ _ _ wr.drew
        have HD := Aside0.mk (below_drew HB.out)
        generalize wr.drew = w2 at HD ⊢
        clear x0 x1 x2 x3 y0 y1 y2 y3
        by_cases heq : p = q
        · have hd : decide (p = q) = true := decide_eq_true heq
          have HE := Aside0.mk heq
          clear heq
          go_wp2_with (go_at_call 177; refine (eqPiece_any _ _ _).mono ?_; rintro e w3 ⟨rfl, hb3⟩)
          go_roundw
          case rel => exact ⟨i + 1, by go_num, by omega, ⟨take_step hlt hlt1 HT.out HP.out HQ.out HE.out⟩, ⟨below_more HD.out hb3⟩⟩
          case measure => simp [intOf]; omega
        · have hd : decide (p = q) = false := decide_eq_false heq
          have HE := Aside0.mk heq
          clear heq
          go_wp2_with (go_at_call 177; refine (eqPiece_any _ _ _).mono ?_; rintro e w3 ⟨rfl, hb3⟩)
          go_ret
          exact ⟨by rw [decide_eq_false (ne_of_getD HP.out HQ.out HE.out)]; rfl, below_more HD.out hb3⟩
      · go_wp2
        go_ret
        exact ⟨by rw [decide_eq_true (take_all HT.out (by omega) (by have := HL.out; omega))]; rfl, HB.out⟩
  · have hb : ((l0.length : Int) != (l1.length : Int)) = true := bne_iff_ne.2 (by omega)
    have hb2 : (l0.length != l1.length) = true := by simpa using hl
    have HL := Aside0.mk hl
    clear hl
    go_enter Try.func126, Try.ntmps126
    go_wp2
    go_ret
    exact ⟨by rw [decide_eq_false (fun h => HL.out (by rw [h]))]; rfl, Below.refl _ _⟩
set_option maxRecDepth 100000 in
theorem eqEndS_any (A0 : Option Addr) (c0 : Nat) (l0 : List EndT) (A1 : Option Addr) (c1 : Nat) (l1 : List EndT) (w : World)
    (hr0 : Kd.C kEnd w A0 l0.length l0) (hr1 : Kd.C kEnd w A1 l1.length l1) :
    Calls Try.prog 58 #[.slice A0 l0.length c0, .slice A1 l1.length c1] w
      fun e w' => e = .returned (.bool (decide (l0 = l1))) ∧ Below w.heap.size w w' := by
  have hm0 := hr0.2.1
  have hm1 := hr1.2.1
  have HR0 := Aside0.mk hr0
  have HR1 := Aside0.mk hr1
  clear hr0 hr1
  by_cases hl : l0.length = l1.length
  · have hb : ((l0.length : Int) != (l1.length : Int)) = false := by simp [hl]
    have hb2 : (l0.length != l1.length) = false := by simp [hl]
    have HL := Aside0.mk hl
    clear hl
    go_enter Try.func58, Try.ntmps58
    go_wp2
    clear hb hb2
    go_loopw [5] (fun v5 wr => ∃ i : Nat, v5 = .int .i64 i ∧ i ≤ l0.length ∧ Aside0 (l0.take i = l1.take i) ∧ Aside0 (Below w.heap.size w wr)) (fun v5 _ => l0.length - (intOf v5).toNat)
    case atStart => exact ⟨0, rfl, Nat.zero_le _, ⟨by simp⟩, ⟨Below.refl _ _⟩⟩
    case round =>
      obtain ⟨i, rfl, hi, HT, HB⟩ := hrel
      by_cases hlt : i < l0.length
      · have hlt1 : i < l1.length := by rw [← HL.out]; exact hlt
        obtain ⟨ad0, e0, x0, x1⟩ := at_End HR0.out i hlt
        obtain ⟨ad1, e1, y0, y1⟩ := at_End HR1.out i hlt1
        subst e0 e1
        replace x0 := pw_cell_below HB.out x0
        replace x1 := pw_cell_below HB.out x1
        replace y0 := pw_cell_below HB.out y0
        replace y1 := pw_cell_below HB.out y1
        obtain ⟨p, hp⟩ : ∃ p, p = l0.getD i default := ⟨_, rfl⟩
        obtain ⟨q, hq⟩ : ∃ q, q = l1.getD i default := ⟨_, rfl⟩
        rw [← hp] at x0 x1
        rw [← hq] at y0 y1
        have HP := Aside0.mk hp
        have HQ := Aside0.mk hq
        clear hp hq
        go_wp2
        go_still_tail 8, (by kernel_rfl)
        change wpList _ _ _ _ _ wr.drew
        have HD := Aside0.mk (below_drew HB.out)
        generalize wr.drew = w2 at HD ⊢
        clear x0 x1 y0 y1
        by_cases heq : p = q
        · have hd : decide (p = q) = true := decide_eq_true heq
          have HE := Aside0.mk heq
          clear heq
          go_wp2_with (go_at_call 137; refine (eqEnd_any _ _ _).mono ?_; rintro e w3 ⟨rfl, hb3⟩)
          go_roundw
          case rel => exact ⟨i + 1, by go_num, by omega, ⟨take_step hlt hlt1 HT.out HP.out HQ.out HE.out⟩, ⟨below_more HD.out hb3⟩⟩
          case measure => simp [intOf]; omega
        · have hd : decide (p = q) = false := decide_eq_false heq
          have HE := Aside0.mk heq
          clear heq
          go_wp2_with (go_at_call 137; refine (eqEnd_any _ _ _).mono ?_; rintro e w3 ⟨rfl, hb3⟩)
          go_ret
          exact ⟨by rw [decide_eq_false (ne_of_getD HP.out HQ.out HE.out)]; rfl, below_more HD.out hb3⟩
      · go_wp2
        go_ret
        exact ⟨by rw [decide_eq_true (take_all HT.out (by omega) (by have := HL.out; omega))]; rfl, HB.out⟩
  · have hb : ((l0.length : Int) != (l1.length : Int)) = true := bne_iff_ne.2 (by omega)
    have hb2 : (l0.length != l1.length) = true := by simpa using hl
    have HL := Aside0.mk hl
    clear hl
    go_enter Try.func58, Try.ntmps58
    go_wp2
    go_ret
    exact ⟨by rw [decide_eq_false (fun h => HL.out (by rw [h]))]; rfl, Below.refl _ _⟩
set_option maxRecDepth 100000 in
theorem eqPartS_any (A0 : Option Addr) (c0 : Nat) (l0 : List PartT) (A1 : Option Addr) (c1 : Nat) (l1 : List PartT) (w : World)
    (hr0 : Kd.C kPart w A0 l0.length l0) (hr1 : Kd.C kPart w A1 l1.length l1) :
    Calls Try.prog 30 #[.slice A0 l0.length c0, .slice A1 l1.length c1] w
      fun e w' => e = .returned (.bool (decide (l0 = l1))) ∧ Below w.heap.size w w' := by
  have hm0 := hr0.2.1
  have hm1 := hr1.2.1
  have HR0 := Aside0.mk hr0
  have HR1 := Aside0.mk hr1
  clear hr0 hr1
  by_cases hl : l0.length = l1.length
  · have hb : ((l0.length : Int) != (l1.length : Int)) = false := by simp [hl]
    have hb2 : (l0.length != l1.length) = false := by simp [hl]
    have HL := Aside0.mk hl
    clear hl
    go_enter Try.func30, Try.ntmps30
    go_wp2
    clear hb hb2
    go_loopw [5] (fun v5 wr => ∃ i : Nat, v5 = .int .i64 i ∧ i ≤ l0.length ∧ Aside0 (l0.take i = l1.take i) ∧ Aside0 (Below w.heap.size w wr)) (fun v5 _ => l0.length - (intOf v5).toNat)
    case atStart => exact ⟨0, rfl, Nat.zero_le _, ⟨by simp⟩, ⟨Below.refl _ _⟩⟩
    case round =>
      obtain ⟨i, rfl, hi, HT, HB⟩ := hrel
      by_cases hlt : i < l0.length
      · have hlt1 : i < l1.length := by rw [← HL.out]; exact hlt
        obtain ⟨ad0, e0, x0, x1, x2⟩ := at_Part HR0.out i hlt
        obtain ⟨ad1, e1, y0, y1, y2⟩ := at_Part HR1.out i hlt1
        subst e0 e1
        replace x0 := pw_cell_below HB.out x0
        replace x1 := pw_cell_below HB.out x1
        replace x2 := pw_cell_below HB.out x2
        replace y0 := pw_cell_below HB.out y0
        replace y1 := pw_cell_below HB.out y1
        replace y2 := pw_cell_below HB.out y2
        obtain ⟨p, hp⟩ : ∃ p, p = l0.getD i default := ⟨_, rfl⟩
        obtain ⟨q, hq⟩ : ∃ q, q = l1.getD i default := ⟨_, rfl⟩
        rw [← hp] at x0 x1 x2
        rw [← hq] at y0 y1 y2
        have HP := Aside0.mk hp
        have HQ := Aside0.mk hq
        clear hp hq
        go_wp2
        go_still_tail 8, (by kernel_rfl)
        change wpList _ _ _ _ _ wr.drew
        have HD := Aside0.mk (below_drew HB.out)
        generalize wr.drew = w2 at HD ⊢
        clear x0 x1 x2 y0 y1 y2
        by_cases heq : p = q
        · have hd : decide (p = q) = true := decide_eq_true heq
          have HE := Aside0.mk heq
          clear heq
          go_wp2_with (go_at_call 107; refine (eqPart_any _ _ _).mono ?_; rintro e w3 ⟨rfl, hb3⟩)
          go_roundw
          case rel => exact ⟨i + 1, by go_num, by omega, ⟨take_step hlt hlt1 HT.out HP.out HQ.out HE.out⟩, ⟨below_more HD.out hb3⟩⟩
          case measure => simp [intOf]; omega
        · have hd : decide (p = q) = false := decide_eq_false heq
          have HE := Aside0.mk heq
          clear heq
          go_wp2_with (go_at_call 107; refine (eqPart_any _ _ _).mono ?_; rintro e w3 ⟨rfl, hb3⟩)
          go_ret
          exact ⟨by rw [decide_eq_false (ne_of_getD HP.out HQ.out HE.out)]; rfl, below_more HD.out hb3⟩
      · go_wp2
        go_ret
        exact ⟨by rw [decide_eq_true (take_all HT.out (by omega) (by have := HL.out; omega))]; rfl, HB.out⟩
  · have hb : ((l0.length : Int) != (l1.length : Int)) = true := bne_iff_ne.2 (by omega)
    have hb2 : (l0.length != l1.length) = true := by simpa using hl
    have HL := Aside0.mk hl
    clear hl
    go_enter Try.func30, Try.ntmps30
    go_wp2
    go_ret
    exact ⟨by rw [decide_eq_false (fun h => HL.out (by rw [h]))]; rfl, Below.refl _ _⟩
set_option maxRecDepth 100000 in
theorem eqStepS_any (A0 : Option Addr) (c0 : Nat) (l0 : List StepT) (A1 : Option Addr) (c1 : Nat) (l1 : List StepT) (w : World)
    (hr0 : Kd.C kStep w A0 l0.length l0) (hr1 : Kd.C kStep w A1 l1.length l1) :
    Calls Try.prog 79 #[.slice A0 l0.length c0, .slice A1 l1.length c1] w
      fun e w' => e = .returned (.bool (decide (l0 = l1))) ∧ Below w.heap.size w w' := by
  have hm0 := hr0.2.1
  have hm1 := hr1.2.1
  have HR0 := Aside0.mk hr0
  have HR1 := Aside0.mk hr1
  clear hr0 hr1
  by_cases hl : l0.length = l1.length
  · have hb : ((l0.length : Int) != (l1.length : Int)) = false := by simp [hl]
    have hb2 : (l0.length != l1.length) = false := by simp [hl]
    have HL := Aside0.mk hl
    clear hl
    go_enter Try.func79, Try.ntmps79
    go_wp2
    clear hb hb2
    go_loopw [5] (fun v5 wr => ∃ i : Nat, v5 = .int .i64 i ∧ i ≤ l0.length ∧ Aside0 (l0.take i = l1.take i) ∧ Aside0 (Below w.heap.size w wr)) (fun v5 _ => l0.length - (intOf v5).toNat)
    case atStart => exact ⟨0, rfl, Nat.zero_le _, ⟨by simp⟩, ⟨Below.refl _ _⟩⟩
    case round =>
      obtain ⟨i, rfl, hi, HT, HB⟩ := hrel
      by_cases hlt : i < l0.length
      · have hlt1 : i < l1.length := by rw [← HL.out]; exact hlt
        obtain ⟨ad0, e0, x0, x1⟩ := at_Step HR0.out i hlt
        obtain ⟨ad1, e1, y0, y1⟩ := at_Step HR1.out i hlt1
        subst e0 e1
        replace x0 := pw_cell_below HB.out x0
        replace x1 := pw_cell_below HB.out x1
        replace y0 := pw_cell_below HB.out y0
        replace y1 := pw_cell_below HB.out y1
        obtain ⟨p, hp⟩ : ∃ p, p = l0.getD i default := ⟨_, rfl⟩
        obtain ⟨q, hq⟩ : ∃ q, q = l1.getD i default := ⟨_, rfl⟩
        rw [← hp] at x0 x1
        rw [← hq] at y0 y1
        have HP := Aside0.mk hp
        have HQ := Aside0.mk hq
        clear hp hq
        go_wp2
        go_still_tail 8, (by kernel_rfl)
        change wpList _ _ _ _ _ wr.drew
        have HD := Aside0.mk (below_drew HB.out)
        generalize wr.drew = w2 at HD ⊢
        clear x0 x1 y0 y1
        by_cases heq : p = q
        · have hd : decide (p = q) = true := decide_eq_true heq
          have HE := Aside0.mk heq
          clear heq
          go_wp2_with (go_at_call 150; refine (eqStep_any _ _ _).mono ?_; rintro e w3 ⟨rfl, hb3⟩)
          go_roundw
          case rel => exact ⟨i + 1, by go_num, by omega, ⟨take_step hlt hlt1 HT.out HP.out HQ.out HE.out⟩, ⟨below_more HD.out hb3⟩⟩
          case measure => simp [intOf]; omega
        · have hd : decide (p = q) = false := decide_eq_false heq
          have HE := Aside0.mk heq
          clear heq
          go_wp2_with (go_at_call 150; refine (eqStep_any _ _ _).mono ?_; rintro e w3 ⟨rfl, hb3⟩)
          go_ret
          exact ⟨by rw [decide_eq_false (ne_of_getD HP.out HQ.out HE.out)]; rfl, below_more HD.out hb3⟩
      · go_wp2
        go_ret
        exact ⟨by rw [decide_eq_true (take_all HT.out (by omega) (by have := HL.out; omega))]; rfl, HB.out⟩
  · have hb : ((l0.length : Int) != (l1.length : Int)) = true := bne_iff_ne.2 (by omega)
    have hb2 : (l0.length != l1.length) = true := by simpa using hl
    have HL := Aside0.mk hl
    clear hl
    go_enter Try.func79, Try.ntmps79
    go_wp2
    go_ret
    exact ⟨by rw [decide_eq_false (fun h => HL.out (by rw [h]))]; rfl, Below.refl _ _⟩
set_option maxRecDepth 100000 in
theorem eqLieS_any (A0 : Option Addr) (c0 : Nat) (l0 : List LieT) (A1 : Option Addr) (c1 : Nat) (l1 : List LieT) (w : World)
    (hr0 : Kd.C kLie w A0 l0.length l0) (hr1 : Kd.C kLie w A1 l1.length l1) :
    Calls Try.prog 78 #[.slice A0 l0.length c0, .slice A1 l1.length c1] w
      fun e w' => e = .returned (.bool (decide (l0 = l1))) ∧ Below w.heap.size w w' := by
  have hm0 := hr0.2.1
  have hm1 := hr1.2.1
  have HR0 := Aside0.mk hr0
  have HR1 := Aside0.mk hr1
  clear hr0 hr1
  by_cases hl : l0.length = l1.length
  · have hb : ((l0.length : Int) != (l1.length : Int)) = false := by simp [hl]
    have hb2 : (l0.length != l1.length) = false := by simp [hl]
    have HL := Aside0.mk hl
    clear hl
    go_enter Try.func78, Try.ntmps78
    go_wp2
    clear hb hb2
    go_loopw [5] (fun v5 wr => ∃ i : Nat, v5 = .int .i64 i ∧ i ≤ l0.length ∧ Aside0 (l0.take i = l1.take i) ∧ Aside0 (Below w.heap.size w wr)) (fun v5 _ => l0.length - (intOf v5).toNat)
    case atStart => exact ⟨0, rfl, Nat.zero_le _, ⟨by simp⟩, ⟨Below.refl _ _⟩⟩
    case round =>
      obtain ⟨i, rfl, hi, HT, HB⟩ := hrel
      by_cases hlt : i < l0.length
      · have hlt1 : i < l1.length := by rw [← HL.out]; exact hlt
        obtain ⟨ad0, e0, x0, x1⟩ := at_Lie HR0.out i hlt
        obtain ⟨ad1, e1, y0, y1⟩ := at_Lie HR1.out i hlt1
        subst e0 e1
        replace x0 := pw_cell_below HB.out x0
        replace x1 := pw_cell_below HB.out x1
        replace y0 := pw_cell_below HB.out y0
        replace y1 := pw_cell_below HB.out y1
        obtain ⟨p, hp⟩ : ∃ p, p = l0.getD i default := ⟨_, rfl⟩
        obtain ⟨q, hq⟩ : ∃ q, q = l1.getD i default := ⟨_, rfl⟩
        rw [← hp] at x0 x1
        rw [← hq] at y0 y1
        have HP := Aside0.mk hp
        have HQ := Aside0.mk hq
        clear hp hq
        go_wp2
        go_still_tail 8, (by kernel_rfl)
        change wpList _ _ _ _ _ wr.drew
        have HD := Aside0.mk (below_drew HB.out)
        generalize wr.drew = w2 at HD ⊢
        clear x0 x1 y0 y1
        by_cases heq : p = q
        · have hd : decide (p = q) = true := decide_eq_true heq
          have HE := Aside0.mk heq
          clear heq
          go_wp2_with (go_at_call 149; refine (eqLie_any _ _ _).mono ?_; rintro e w3 ⟨rfl, hb3⟩)
          go_roundw
          case rel => exact ⟨i + 1, by go_num, by omega, ⟨take_step hlt hlt1 HT.out HP.out HQ.out HE.out⟩, ⟨below_more HD.out hb3⟩⟩
          case measure => simp [intOf]; omega
        · have hd : decide (p = q) = false := decide_eq_false heq
          have HE := Aside0.mk heq
          clear heq
          go_wp2_with (go_at_call 149; refine (eqLie_any _ _ _).mono ?_; rintro e w3 ⟨rfl, hb3⟩)
          go_ret
          exact ⟨by rw [decide_eq_false (ne_of_getD HP.out HQ.out HE.out)]; rfl, below_more HD.out hb3⟩
      · go_wp2
        go_ret
        exact ⟨by rw [decide_eq_true (take_all HT.out (by omega) (by have := HL.out; omega))]; rfl, HB.out⟩
  · have hb : ((l0.length : Int) != (l1.length : Int)) = true := bne_iff_ne.2 (by omega)
    have hb2 : (l0.length != l1.length) = true := by simpa using hl
    have HL := Aside0.mk hl
    clear hl
    go_enter Try.func78, Try.ntmps78
    go_wp2
    go_ret
    exact ⟨by rw [decide_eq_false (fun h => HL.out (by rw [h]))]; rfl, Below.refl _ _⟩
set_option maxRecDepth 100000 in
theorem eqSpotS_any (A0 : Option Addr) (c0 : Nat) (l0 : List SpotT) (A1 : Option Addr) (c1 : Nat) (l1 : List SpotT) (w : World)
    (hr0 : Kd.C kSpot w A0 l0.length l0) (hr1 : Kd.C kSpot w A1 l1.length l1) :
    Calls Try.prog 101 #[.slice A0 l0.length c0, .slice A1 l1.length c1] w
      fun e w' => e = .returned (.bool (decide (l0 = l1))) ∧ Below w.heap.size w w' := by
  have hm0 := hr0.2.1
  have hm1 := hr1.2.1
  have HR0 := Aside0.mk hr0
  have HR1 := Aside0.mk hr1
  clear hr0 hr1
  by_cases hl : l0.length = l1.length
  · have hb : ((l0.length : Int) != (l1.length : Int)) = false := by simp [hl]
    have hb2 : (l0.length != l1.length) = false := by simp [hl]
    have HL := Aside0.mk hl
    clear hl
    go_enter Try.func101, Try.ntmps101
    go_wp2
    clear hb hb2
    go_loopw [5] (fun v5 wr => ∃ i : Nat, v5 = .int .i64 i ∧ i ≤ l0.length ∧ Aside0 (l0.take i = l1.take i) ∧ Aside0 (Below w.heap.size w wr)) (fun v5 _ => l0.length - (intOf v5).toNat)
    case atStart => exact ⟨0, rfl, Nat.zero_le _, ⟨by simp⟩, ⟨Below.refl _ _⟩⟩
    case round =>
      obtain ⟨i, rfl, hi, HT, HB⟩ := hrel
      by_cases hlt : i < l0.length
      · have hlt1 : i < l1.length := by rw [← HL.out]; exact hlt
        obtain ⟨ad0, e0, x0, x1, x2⟩ := at_Spot HR0.out i hlt
        obtain ⟨ad1, e1, y0, y1, y2⟩ := at_Spot HR1.out i hlt1
        subst e0 e1
        replace x0 := pw_cell_below HB.out x0
        replace x1 := pw_cell_below HB.out x1
        replace x2 := pw_cell_below HB.out x2
        replace y0 := pw_cell_below HB.out y0
        replace y1 := pw_cell_below HB.out y1
        replace y2 := pw_cell_below HB.out y2
        obtain ⟨p, hp⟩ : ∃ p, p = l0.getD i default := ⟨_, rfl⟩
        obtain ⟨q, hq⟩ : ∃ q, q = l1.getD i default := ⟨_, rfl⟩
        rw [← hp] at x0 x1 x2
        rw [← hq] at y0 y1 y2
        have HP := Aside0.mk hp
        have HQ := Aside0.mk hq
        clear hp hq
        go_wp2
        go_still_tail 8, (by kernel_rfl)
        change wpList _ _ _ _ _ wr.drew
        have HD := Aside0.mk (below_drew HB.out)
        generalize wr.drew = w2 at HD ⊢
        clear x0 x1 x2 y0 y1 y2
        by_cases heq : p = q
        · have hd : decide (p = q) = true := decide_eq_true heq
          have HE := Aside0.mk heq
          clear heq
          go_wp2_with (go_at_call 55; refine (eqSpot_any _ _ _).mono ?_; rintro e w3 ⟨rfl, hb3⟩)
          go_roundw
          case rel => exact ⟨i + 1, by go_num, by omega, ⟨take_step hlt hlt1 HT.out HP.out HQ.out HE.out⟩, ⟨below_more HD.out hb3⟩⟩
          case measure => simp [intOf]; omega
        · have hd : decide (p = q) = false := decide_eq_false heq
          have HE := Aside0.mk heq
          clear heq
          go_wp2_with (go_at_call 55; refine (eqSpot_any _ _ _).mono ?_; rintro e w3 ⟨rfl, hb3⟩)
          go_ret
          exact ⟨by rw [decide_eq_false (ne_of_getD HP.out HQ.out HE.out)]; rfl, below_more HD.out hb3⟩
      · go_wp2
        go_ret
        exact ⟨by rw [decide_eq_true (take_all HT.out (by omega) (by have := HL.out; omega))]; rfl, HB.out⟩
  · have hb : ((l0.length : Int) != (l1.length : Int)) = true := bne_iff_ne.2 (by omega)
    have hb2 : (l0.length != l1.length) = true := by simpa using hl
    have HL := Aside0.mk hl
    clear hl
    go_enter Try.func101, Try.ntmps101
    go_wp2
    go_ret
    exact ⟨by rw [decide_eq_false (fun h => HL.out (by rw [h]))]; rfl, Below.refl _ _⟩
theorem eqJoint_any (p q : JointT) (A0 : Option Addr) (c0 : Nat) (A1 : Option Addr) (c1 : Nat) (w : World) (hr0 : Kd.C kEnd w A0 p.ends.length p.ends) (hr1 : Kd.C kEnd w A1 q.ends.length q.ends) :
    Calls Try.prog 178 #[.agg #[.int .i64 p.kind, .string p.name, .slice A0 p.ends.length c0], .agg #[.int .i64 q.kind, .string q.name, .slice A1 q.ends.length c1]] w
      fun e w' => e = .returned (.bool (decide (p = q))) ∧ Below w.heap.size w w' := by
  have HR0 := Aside0.mk hr0
  have HR1 := Aside0.mk hr1
  clear hr0 hr1
  go_enter Try.func178, Try.ntmps178
  go_wp2_with (go_at_call 58; refine (eqEndS_any A0 c0 p.ends A1 c1 q.ends _ (Kd.C_below HR0.out (below_two _ _ _)) (Kd.C_below HR1.out (below_two _ _ _))).mono ?_; rintro e w3 ⟨rfl, hb3⟩)
  all_goals
    go_ret
    refine ⟨?_, by first | exact below_two _ _ _ | exact below_more (below_two _ _ _) ‹_›⟩
    rw [show decide (p = q) = decide (p.kind = q.kind ∧ p.name = q.name ∧ p.ends = q.ends) from decide_eq_decide.2 JointT.ext_iff.symm]
    simp_all [toList_inj]
set_option maxRecDepth 100000 in
theorem eqJointS_any (A0 : Option Addr) (c0 : Nat) (l0 : List JointT) (A1 : Option Addr) (c1 : Nat) (l1 : List JointT) (w : World)
    (hr0 : Kd.C (kJoint 67) w A0 l0.length l0) (hr1 : Kd.C (kJoint 67) w A1 l1.length l1) :
    Calls Try.prog 127 #[.slice A0 l0.length c0, .slice A1 l1.length c1] w
      fun e w' => e = .returned (.bool (decide (l0 = l1))) ∧ Below w.heap.size w w' := by
  have hm0 := hr0.2.1
  have hm1 := hr1.2.1
  have HR0 := Aside0.mk hr0
  have HR1 := Aside0.mk hr1
  clear hr0 hr1
  by_cases hl : l0.length = l1.length
  · have hb : ((l0.length : Int) != (l1.length : Int)) = false := by simp [hl]
    have hb2 : (l0.length != l1.length) = false := by simp [hl]
    have HL := Aside0.mk hl
    clear hl
    go_enter Try.func127, Try.ntmps127
    go_wp2
    clear hb hb2
    go_loopw [5] (fun v5 wr => ∃ i : Nat, v5 = .int .i64 i ∧ i ≤ l0.length ∧ Aside0 (l0.take i = l1.take i) ∧ Aside0 (Below w.heap.size w wr)) (fun v5 _ => l0.length - (intOf v5).toNat)
    case atStart => exact ⟨0, rfl, Nat.zero_le _, ⟨by simp⟩, ⟨Below.refl _ _⟩⟩
    case round =>
      obtain ⟨i, rfl, hi, HT, HB⟩ := hrel
      by_cases hlt : i < l0.length
      · have hlt1 : i < l1.length := by rw [← HL.out]; exact hlt
        obtain ⟨ad0, B0, k0, e0, x0, x1, x2, m0, g0⟩ := at_Joint HR0.out i hlt
        obtain ⟨ad1, B1, k1, e1, y0, y1, y2, m1, g1⟩ := at_Joint HR1.out i hlt1
        subst e0 e1
        replace x0 := pw_cell_below HB.out x0
        replace x1 := pw_cell_below HB.out x1
        replace x2 := pw_cell_below HB.out x2
        replace y0 := pw_cell_below HB.out y0
        replace y1 := pw_cell_below HB.out y1
        replace y2 := pw_cell_below HB.out y2
        have G0 := Aside0.mk g0
        have G1 := Aside0.mk g1
        clear g0 g1 m0 m1
        obtain ⟨p, hp⟩ : ∃ p, p = l0.getD i default := ⟨_, rfl⟩
        obtain ⟨q, hq⟩ : ∃ q, q = l1.getD i default := ⟨_, rfl⟩
        rw [← hp] at x0 x1 x2
        rw [← hq] at y0 y1 y2
        have HP := Aside0.mk hp
        have HQ := Aside0.mk hq
        clear hp hq
        go_wp2
        go_still_tail 8, (by kernel_rfl)
        change wpList _ _ _ _ _ wr.drew
        have HD := Aside0.mk (below_drew HB.out)
        generalize wr.drew = w2 at HD ⊢
        clear x0 x1 x2 y0 y1 y2
        rw [← HP.out] at G0
        rw [← HQ.out] at G1
        have F0 := Aside0.mk (Kd.C_below G0.out HD.out)
        have F1 := Aside0.mk (Kd.C_below G1.out HD.out)
        clear G0 G1
        by_cases heq : p = q
        · have hd : decide (p = q) = true := decide_eq_true heq
          have HE := Aside0.mk heq
          clear heq
          go_wp2_with (go_at_call 178; refine (eqJoint_any p q B0 k0 B1 k1 _ F0.out F1.out).mono ?_; rintro e w3 ⟨rfl, hb3⟩)
          go_roundw
          case rel => exact ⟨i + 1, by go_num, by omega, ⟨take_step hlt hlt1 HT.out HP.out HQ.out HE.out⟩, ⟨below_more HD.out hb3⟩⟩
          case measure => simp [intOf]; omega
        · have hd : decide (p = q) = false := decide_eq_false heq
          have HE := Aside0.mk heq
          clear heq
          go_wp2_with (go_at_call 178; refine (eqJoint_any p q B0 k0 B1 k1 _ F0.out F1.out).mono ?_; rintro e w3 ⟨rfl, hb3⟩)
          go_ret
          exact ⟨by rw [decide_eq_false (ne_of_getD HP.out HQ.out HE.out)]; rfl, below_more HD.out hb3⟩
      · go_wp2
        go_ret
        exact ⟨by rw [decide_eq_true (take_all HT.out (by omega) (by have := HL.out; omega))]; rfl, HB.out⟩
  · have hb : ((l0.length : Int) != (l1.length : Int)) = true := bne_iff_ne.2 (by omega)
    have hb2 : (l0.length != l1.length) = true := by simpa using hl
    have HL := Aside0.mk hl
    clear hl
    go_enter Try.func127, Try.ntmps127
    go_wp2
    go_ret
    exact ⟨by rw [decide_eq_false (fun h => HL.out (by rw [h]))]; rfl, Below.refl _ _⟩
theorem eqNet_any (n m : NetT) (u v : (Option Addr × Nat) × (Option Addr × Nat)) (w : World) (hn : RdNet 67 w u n) (hm : RdNet 67 w v m) :
    Calls Try.prog 46 #[.agg #[.slice u.1.1 n.pieces.length u.1.2, .slice u.2.1 n.joints.length u.2.2], .agg #[.slice v.1.1 m.pieces.length v.1.2, .slice v.2.1 m.joints.length v.2.2]] w
      fun e w' => e = .returned (.bool (decide (n = m))) ∧ Below w.heap.size w w' := by
  have P0 := Aside0.mk hn.1.1
  have P1 := Aside0.mk hm.1.1
  have J0 := Aside0.mk hn.2.1
  have J1 := Aside0.mk hm.2.1
  clear hn hm
  obtain ⟨⟨A0, c0⟩, ⟨A1, c1⟩⟩ := u
  obtain ⟨⟨B0, d0⟩, ⟨B1, d1⟩⟩ := v
  by_cases hp : n.pieces = m.pieces
  · have hd : decide (n.pieces = m.pieces) = true := decide_eq_true hp
    have HP := Aside0.mk hp
    clear hp
    go_enter Try.func46, Try.ntmps46
    go_wp2_with (first | (go_at_call 126; refine (eqPieceS_any _ _ _ _ _ _ _ (Kd.C_below P0.out (below_two _ _ _)) (Kd.C_below P1.out (below_two _ _ _))).mono ?_; rintro e w3 ⟨rfl, hb3⟩; obtain ⟨hc3, hf3⟩ := bcell hb3; have H3 := Aside0.mk (below_more (below_two w _ _) hb3); clear hb3) | (go_at_call 127; refine (eqJointS_any _ _ _ _ _ _ _ (Kd.C_below J0.out H3.out) (Kd.C_below J1.out H3.out)).mono ?_; rintro e w4 ⟨rfl, hb4⟩))
    all_goals
      go_ret
      refine ⟨?_, below_more H3.out ‹_›⟩
      rw [show decide (n = m) = decide (n.pieces = m.pieces ∧ n.joints = m.joints) from decide_eq_decide.2 NetT.ext_iff.symm]
      have hp := HP.out
      simp_all
  · have hd : decide (n.pieces = m.pieces) = false := decide_eq_false hp
    have HP := Aside0.mk hp
    clear hp
    go_enter Try.func46, Try.ntmps46
    go_wp2_with (go_at_call 126; refine (eqPieceS_any _ _ _ _ _ _ _ (Kd.C_below P0.out (below_two _ _ _)) (Kd.C_below P1.out (below_two _ _ _))).mono ?_; rintro e w3 ⟨rfl, hb3⟩)
    go_ret
    refine ⟨?_, below_more (below_two w _ _) hb3⟩
    rw [show decide (n = m) = decide (n.pieces = m.pieces ∧ n.joints = m.joints) from decide_eq_decide.2 NetT.ext_iff.symm]
    have hp := HP.out
    simp_all
theorem eqFault_any (a0 a1 b0 b1 : Int) (w : World) :
    Calls Try.prog 45 #[.agg #[.int .i64 a0, .int .i64 a1], .agg #[.int .i64 b0, .int .i64 b1]] w fun e w' => e = .returned (.bool (decide (a0 = b0 ∧ a1 = b1))) ∧ Below w.heap.size w w' := by
  go_enter Try.func45, Try.ntmps45
  go_wp2
  all_goals
    go_ret
    refine ⟨?_, below_two _ _ _⟩
    simp_all
end Go.Proofs.Ytckcffjnffcjcaa
