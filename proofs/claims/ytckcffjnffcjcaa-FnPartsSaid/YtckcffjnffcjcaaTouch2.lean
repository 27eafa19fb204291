/- Contract of the program's Touch. No conditions. -/
import Derived.Test.YtckcffjnffcjcaaTouch1
import Derived.Test.YtckcffjnffcjcaaKeys
import Derived.Deep.RegionHeld3
import Derived.Deep.RegionLaw
import Derived.Outline
set_option linter.unusedVariables false
set_option linter.unusedSimpArgs false
namespace Go.Proofs.Ytckcffjnffcjcaa
open Go.RowKit Go.Proofs.YtckcffjnffcjcaaW.PrintWords
theorem zeroRow (w : World) : (zeroValue 26).run Try.prog w = .ok (.slice none 0 0) w := by kernel_rfl
theorem info89' : (Try.prog.info? 89).map (fun i => (i.zero, i.size, i.bytes)) = some (some (.agg #[.int .i64 0, .int .i64 0, .int .i64 0]), 3, 24) := by kernel_rfl
/-- The rows of a map, each key's in blocks of its own. -/
def RowsBy (W : World) (base : Nat) (l : List (Int × Value)) (own : Nat → Int) (done : List PartT) : Prop :=
  ∀ k, Kd.R kPart 89 W base (fun g => own g = k) ((lk l k).getD (.slice none 0 0)) (done.filter (fun p => decide (p.piece = k)))
theorem Bx.grownT {W w1 : World} {b : Nat} {row : Option Nat} {vs : List Value} (h : Bx W b vs) (hk : W.grownBy w1 row) (hne : some b ≠ row) : Bx w1 b vs := by
  have e : w1.heap[b]? = W.heap[b]? := hk.block b h.lt hne
  refine ⟨Nat.lt_of_lt_of_le h.lt hk.size, fun i v hv => ?_, fun i => ?_⟩
  · have := h.c i v hv
    unfold World.cell? at this ⊢
    simp only at this ⊢
    rw [e]; exact this
  · have := h.f i
    unfold World.frozen? at this ⊢
    simp only at this ⊢
    rw [e]; exact this
theorem RowsBy.start (W : World) (base : Nat) : RowsBy W base [] (fun _ => 0) [] := fun k => by simp [lk]; exact Kd.R_nil ..
theorem RowsBy.below {W W1 : World} {base : Nat} {l : List (Int × Value)} {own : Nat → Int} {done : List PartT} (h : RowsBy W base l own done) (hb : Below W.heap.size W W1) : RowsBy W1 base l own done := fun k => Kd.R_below (h k) hb
/-- A part more. -/
theorem RowsBy.more {W w1 : World} {base : Nat} {l : List (Int × Value)} {own : Nat → Int} {done : List PartT} {p : PartT} {v v1 : Value} (h : RowsBy W base l own done) (hv : (lk l p.piece).getD (.slice none 0 0) = v) (hg : W.grownBy w1 v.ownBlock)
    (h1 : Kd.R kPart 89 w1 base (fun g => (if g < W.heap.size then own g else p.piece) = p.piece) v1 (done.filter (fun q => decide (q.piece = p.piece)) ++ [p])) :
    RowsBy w1 base (up l p.piece v1) (fun g => if g < W.heap.size then own g else p.piece) (done ++ [p]) := fun k => by
  rw [lk_up, List.filter_append]
  by_cases hk : p.piece = k
  · subst hk
    rw [if_pos rfl]
    simpa using h1
  · rw [if_neg hk]
    have e : [p].filter (fun q => decide (q.piece = k)) = [] := by simp [hk]
    rw [e, List.append_nil]
    refine Kd.R_mono (Kd.R_grown (Kd.R_bound (h k)) hg (fun g hgk hgr => ?_)) (fun g hgk => ?_)
    · have := (h p.piece).1 g (by rw [hv]; exact hgr.symm)
      have h2 := hgk.1
      omega
    · have := hgk.2.2.1
      show (if g < W.heap.size then own g else p.piece) = k
      rw [if_pos this]; exact hgk.1
theorem RowsBy.put {W : World} {base m : Nat} {l : List (Int × Value)} {own : Nat → Int} {done : List PartT} (h : RowsBy W base l own done) (hm : m < base) (o : Obj) : RowsBy (putMap W m o) base l own done := fun k =>
  Kd.R_mono (Kd.R_step (Kd.R_bound (h k)) (fun g hg hlt => putMap_other W m o (by have := hg.2.1; omega))) (fun g hg => hg.1)
/-- What the map answers at a key. -/
theorem RowsBy.get {W : World} {base m : Nat} {l : List (Int × Value)} {own : Nat → Int} {done : List PartT} (h : RowsBy W base l own done) (hM : MapOf keyInt id W m l) (k : Int) :
    ∃ A c, (lk l k).getD (.slice none 0 0) = .slice A (done.filter (fun p => decide (p.piece = k))).length c ∧ (done.filter (fun p => decide (p.piece = k))).length ≤ c ∧ Kd.C kPart W A (done.filter (fun p => decide (p.piece = k))).length (done.filter (fun p => decide (p.piece = k))) ∧
      ∀ W1, Below W.heap.size W W1 → (Instr.lookup 131 (.map (some m)) (.int .i64 k) false).run Try.prog W1 = .ok (.slice A (done.filter (fun p => decide (p.piece = k))).length c) W1 := by
  obtain ⟨A, c, e, h1, h2⟩ := Kd.R_reads (h k)
  refine ⟨A, c, e, h1, h2, fun W1 hb => ?_⟩
  have := (hM.below hb).lookup (t := 131) (e := 26) Try.underlying131 (zeroRow W1) k false
  rw [Option.map_id_fun, id_eq, e] at this
  exact this
theorem touch_yes' {a b : List PartT} (h1 : partsOk a = true) (h2 : partsOk b = true) {i : Nat} (hi : i < a.length) {q : PartT} (hq : q ∈ b.filter (fun p => decide (p.piece = (a.getD i default).piece))) (h3 : (a.getD i default).frm ≤ q.upto) (h4 : q.frm ≤ (a.getD i default).upto) : touchB a b = true := by
  obtain ⟨hqb, hqp⟩ := List.mem_filter.1 hq
  unfold touchB
  rw [h1, h2, Bool.true_and, Bool.true_and, List.any_eq_true]
  exact ⟨_, getD_mem a i hi, List.any_eq_true.2 ⟨q, hqb, decide_eq_true ⟨(of_decide_eq_true hqp).symm, h3, h4⟩⟩⟩
def missB (x : PartT) (b : List PartT) : Prop := ∀ q ∈ b.filter (fun p => decide (p.piece = x.piece)), ¬ (x.frm ≤ q.upto ∧ q.frm ≤ x.upto)
theorem touch_no' {a b : List PartT} (h : ∀ i, i < a.length → missB (a.getD i default) b) : touchB a b = false := by
  refine touch_no fun i hi k hk => ?_
  unfold touchP
  refine decide_eq_false fun ⟨e, h1, h2⟩ => ?_
  exact h i hi _ (List.mem_filter.2 ⟨getD_mem b k hk, decide_eq_true e.symm⟩) ⟨h1, h2⟩
theorem miss_of {x : PartT} {b F : List PartT} (hF : F = b.filter (fun p => decide (p.piece = x.piece))) (h : ∀ k, k < F.length → ¬ (x.frm ≤ (F.getD k default).upto ∧ (F.getD k default).frm ≤ x.upto)) : missB x b := by
  intro q hq
  rw [← hF] at hq
  obtain ⟨k, hk, rfl⟩ := List.mem_iff_getElem.1 hq
  have := h k hk
  rw [getD_at F k hk] at this
  exact this
set_option maxRecDepth 100000 in
set_option maxHeartbeats 4000000 in
theorem implTouch_any (A0 : Option Addr) (c0 : Nat) (a : List PartT) (A1 : Option Addr) (c1 : Nat) (b : List PartT) (w : World) (hr0 : Kd.C kPart w A0 a.length a) (hr1 : Kd.C kPart w A1 b.length b) :
    Calls Try.prog 32 #[.slice A0 a.length c0, .slice A1 b.length c1] w fun e w' => e = .returned (.bool (touchB a b)) ∧ Below w.heap.size w w' := by
  have hm0 := hr0.2.1
  have hm1 := hr1.2.1
  have H0 := Aside0.mk hr0
  have H1 := Aside0.mk hr1
  clear hr0 hr1
  cases h1 : partsOk a with
  | false =>
    have HV := Aside0.mk (touch_bad1 (b := b) h1)
    have HA := Aside0.mk h1
    clear h1
    go_enter Try.func32, Try.ntmps32
    go_wp2_with (go_at_call 106; refine (partsOk_any A0 c0 a _ H0.out).mono ?_; rintro e w3 ⟨rfl, hb3⟩; rw [HA.out]; have B3 := Aside0.mk hb3; clear hb3)
    go_ret
    exact ⟨by rw [HV.out]; rfl, B3.out⟩
  | true =>
    cases h2 : partsOk b with
    | false =>
      have HV := Aside0.mk (touch_bad2 h1 h2)
      have HA := Aside0.mk h1
      have HB := Aside0.mk h2
      clear h1 h2
      go_enter Try.func32, Try.ntmps32
      go_wp2_with fail
      refine (partsOk_any A0 c0 a _ H0.out).mono ?_
      rintro e w3 ⟨rfl, hb3⟩; rw [HA.out]; have B3 := Aside0.mk hb3; clear hb3
      go_wp2_with fail
      refine (partsOk_any A1 c1 b _ (Kd.C_below H1.out B3.out)).mono ?_
      rintro e w4 ⟨rfl, hb4⟩; rw [HB.out]; have B4 := Aside0.mk (below_more B3.out hb4); clear hb4
      go_wp2
      go_ret
      exact ⟨by rw [HV.out]; rfl, B4.out⟩
    | true =>
      have hlen := (partOk_of h2).1
      have HTY := Aside0.mk (show ∀ {i : Nat}, i < a.length → ∀ q, q ∈ b.filter (fun p => decide (p.piece = (a.getD i default).piece)) → (a.getD i default).frm ≤ q.upto → q.frm ≤ (a.getD i default).upto → touchB a b = true from fun hi q hq h3 h4 => touch_yes' h1 h2 hi hq h3 h4)
      have HA := Aside0.mk h1
      have HB := Aside0.mk h2
      clear h1 h2
      have hmm := @run_makeMap Try.prog
      go_enter Try.func32, Try.ntmps32
      go_wp2_with fail
      refine (partsOk_any A0 c0 a _ H0.out).mono ?_
      rintro e w3 ⟨rfl, hb3⟩; rw [HA.out]; have B3 := Aside0.mk hb3; clear hb3
      go_wp2_with fail
      refine (partsOk_any A1 c1 b _ (Kd.C_below H1.out B3.out)).mono ?_
      rintro e w4 ⟨rfl, hb4⟩; rw [HB.out]; have B4 := Aside0.mk (below_more B3.out hb4); clear hb4
      go_wp2
      have hsz4 := B4.out.size
      go_loopw [23] (fun v23 wr => ∃ (i : Nat) (l : List (Int × Value)) (own : Nat → Int), v23 = .int .i64 i ∧ i ≤ b.length ∧ Aside0 (MapOf keyInt id wr w4.heap.size l) ∧ Aside0 (RowsBy wr (w4.heap.size + 1) l own (b.take i)) ∧ Aside0 (Below w.heap.size w wr) ∧ w4.heap.size + 1 ≤ wr.heap.size) (fun v23 _ => b.length - (intOf v23).toNat)
      case atStart => exact ⟨0, [], fun _ => 0, rfl, Nat.zero_le _, ⟨MapOf.made keyInt id w4⟩, ⟨RowsBy.start _ _⟩, ⟨below_alloc B4.out _⟩, by simp⟩
      case round =>
        obtain ⟨i, l, own, rfl, hi, HM, HRW, HBr, hszr⟩ := hrel
        by_cases hlt : i < b.length
        · obtain ⟨ad1, e1, y0, y1, y2⟩ := at_Part H1.out i hlt
          subst e1
          replace y0 := pw_cell_below HBr.out y0
          replace y1 := pw_cell_below HBr.out y1
          replace y2 := pw_cell_below HBr.out y2
          have htk := take_getD b i hlt
          obtain ⟨q, hq⟩ : ∃ q, q = b.getD i default := ⟨_, rfl⟩
          rw [← hq] at y0 y1 y2 htk
          obtain ⟨done, hdone⟩ : ∃ d, d = b.take i := ⟨_, rfl⟩
          rw [← hdone] at HRW htk
          have hdl : done.length ≤ 10000 := by rw [hdone, List.length_take]; omega
          have HTK := Aside0.mk htk
          clear hq htk hdone
          have HN := HM
          go_wp2
          obtain ⟨W5, hW5⟩ : ∃ W5, W5 = wr.alloc (.cells #[.int .i64 q.piece, .int .i64 q.frm, .int .i64 q.upto] 89) := ⟨_, rfl⟩
          have hb6 : Below wr.heap.size wr W5.drew := by rw [hW5]; exact below_drew (below_alloc (Below.refl _ _) _)
          have M6 := Aside0.mk (HM.out.below hb6)
          have R6 := Aside0.mk (HRW.out.below hb6)
          have X6 : Aside0 (Bx W5.drew wr.heap.size [.int .i64 q.piece, .int .i64 q.frm, .int .i64 q.upto]) := ⟨by rw [hW5]; exact (Bx.new wr [.int .i64 q.piece, .int .i64 q.frm, .int .i64 q.upto] 89).below (below_drew (Below.refl _ _))⟩
          have hs6 : Aside0 (W5.drew.heap.size = wr.heap.size + 1) := ⟨by rw [hW5]; simp⟩
          have B6 := Aside0.mk (below_more HBr.out hb6)
          obtain ⟨F, hF⟩ : ∃ F, F = done.filter (fun p => decide (p.piece = q.piece)) := ⟨_, rfl⟩
          have hFl : F.length ≤ 10000 := by rw [hF]; exact Nat.le_trans (List.length_filter_le _ _) hdl
          obtain ⟨A, cA, hv, hcA, _, hlook⟩ := R6.out.get M6.out q.piece
          have RQ := R6.out q.piece
          have hvl : ∀ k, ((lk l q.piece).getD (.slice none 0 0)).ownBlock = some k → k < wr.heap.size := Kd.R_lt (HRW.out q.piece)
          rw [← hF] at hv hcA hlook RQ
          rw [hv] at RQ hvl
          have RK := Aside0.mk (show Kd.R kPart 89 W5.drew (w4.heap.size + 1) (fun g => (if g < W5.drew.heap.size then own g else q.piece) = q.piece) (.slice A F.length cA) F from Kd.R_mono (Kd.R_bound RQ) (fun g hg => by
            show (if g < W5.drew.heap.size then own g else q.piece) = q.piece
            rw [if_pos hg.2.2.1]; exact hg.1))
          have hl1 := hlook W5.drew (Below.refl _ _)
          have hl2 := fun o => hlook ((W5.alloc o).drew) (show Below W5.drew.heap.size W5.drew (W5.drew.alloc o) from below_alloc (Below.refl _ _) o)
          have HV := Aside0.mk hv
          have HVL := Aside0.mk hvl
          have HFF := Aside0.mk hF
          rw [← hW5]
          have HW5 := Aside0.mk hW5
          clear hlook RQ hv hvl hF hb6 hcA hW5 y0 y1 y2
          have x0 := X6.out.c 0 _ rfl; have x1 := X6.out.c 1 _ rfl; have x2 := X6.out.c 2 _ rfl
          have xlt := X6.out.lt
          have xlt5 : wr.heap.size < W5.heap.size := X6.out.lt
          have xb0 : W5.cell? ⟨wr.heap.size, 0, none⟩ = some (.int .i64 q.piece) := x0
          have xb1 : W5.cell? ⟨wr.heap.size, 1, none⟩ = some (.int .i64 q.frm) := x1
          have xb2 : W5.cell? ⟨wr.heap.size, 2, none⟩ = some (.int .i64 q.upto) := x2
          have xa0 : ∀ o, (W5.alloc o).drew.cell? ⟨wr.heap.size, 0, none⟩ = some (.int .i64 q.piece) := fun o => (X6.out.alloc o).c 0 _ rfl
          go_region_law
            (first
              | (refine Kd.R_append_step kPart (w0 := W5.drew) (W := W5.drew) (w4.heap.size + 1) (by rfl) _ _ 26 89 (.agg #[.int .i64 0, .int .i64 0, .int .i64 0]) 24 (by rfl) Try.underlying26 info89' rfl (by decide) (by omega) (.slice A F.length cA) F q [.int .i64 q.piece, .int .i64 q.frm, .int .i64 q.upto] (fun g => (if g < W5.drew.heap.size then own g else q.piece) = q.piece) (fun _ => False) (by rfl) (by rfl) (kPart_mkM _ _ _ _) (fun _ hk => hk.elim) (fun k hk => by show (if k < W5.drew.heap.size then own k else q.piece) = q.piece; rw [if_neg (by omega)]) RK.out (Below.refl _ _) (by have := hs6.out; omega) (by omega) ?_; intro v1 w9 hR9 hB9 hG9 hat9; obtain ⟨pA1, pc1, hv1⟩ := Kd.R_slice hR9; rw [List.length_append, List.length_singleton] at hv1; subst hv1; have X9 := Aside0.mk (X6.out.grownT hG9 (fun he => by have := HVL.out _ he.symm; omega)); have M9 := Aside0.mk (M6.out.move (hB9.block w4.heap.size (by omega))); have x90 := X9.out.c 0 _ rfl; have hR9' := Aside0.mk hR9; have hB9' := Aside0.mk hB9; have hG9' := Aside0.mk hG9; have hsz9 := Aside0.mk hB9.size; obtain ⟨o9, hu9, hM10⟩ := M9.out.update (t := 131) (e := 26) Try.underlying131 q.piece (.slice pA1 (F.length + 1) pc1); have M10 := Aside0.mk hM10; have hu9 : (Instr.mapUpdate 131 (.map (some w4.heap.size)) (.int .i64 q.piece) (.slice pA1 (F.length + 1) pc1)).run Try.prog w9 = .ok () (putMap w9 w4.heap.size o9) := hu9; clear hR9 hB9 hG9 hat9 hM10))
          all_goals
            try go_wp2
            go_roundw
            case rel =>
              have hs6' := hs6.out
              have hsz9' := hsz9.out
              have hbl : Below w.heap.size w w9 := B6.out.trans ⟨hB9'.out.os, hB9'.out.tape, hB9'.out.output, hB9'.out.size, fun i hi => hB9'.out.block i (by omega)⟩
              refine ⟨i + 1, up l q.piece (.slice pA1 (F.length + 1) pc1), fun g => if g < W5.drew.heap.size then own g else q.piece, by go_num, by omega, M10, ⟨?_⟩, ⟨putMap_below hbl (by omega)⟩, by unfold putMap; simp; omega⟩
              rw [HTK.out]
              refine RowsBy.put (RowsBy.more R6.out HV.out hG9'.out ?_) (by omega) _
              rw [← HFF.out]
              exact hR9'.out
            case measure => simp [intOf]; omega
        · have hib : b.take i = b := List.take_of_length_le (by omega)
          rw [hib] at HRW
          clear hib
          obtain ⟨WR, hWR⟩ : ∃ WR, WR = wr := ⟨_, rfl⟩
          subst hWR
          go_wp2
          go_loopw [40] (fun v40 wr => ∃ i : Nat, v40 = .int .i64 i ∧ i ≤ a.length ∧ Aside0 (∀ k, k < i → missB (a.getD k default) b) ∧ Aside0 (Below WR.heap.size WR wr)) (fun v40 _ => a.length - (intOf v40).toNat)
          case atStart => exact ⟨0, rfl, Nat.zero_le _, ⟨fun k hk => by omega⟩, ⟨Below.refl _ _⟩⟩
          case round =>
            clear hlt hi
            obtain ⟨j, rfl, hj, HT, HBs⟩ := hrel
            have HBw := Aside0.mk (below_more HBr.out HBs.out)
            by_cases hlt : j < a.length
            · obtain ⟨ad0, e0, x0, x1, x2⟩ := at_Part H0.out j hlt
              subst e0
              replace x0 := pw_cell_below HBw.out x0
              replace x1 := pw_cell_below HBw.out x1
              replace x2 := pw_cell_below HBw.out x2
              have hty := HTY.out hlt
              obtain ⟨p, hp⟩ : ∃ p, p = a.getD j default := ⟨_, rfl⟩
              rw [← hp] at x0 x1 x2 hty
              have HTYp := Aside0.mk hty
              have HP := Aside0.mk hp
              clear hp hty
              obtain ⟨F, hF⟩ : ∃ F, F = b.filter (fun q => decide (q.piece = p.piece)) := ⟨_, rfl⟩
              obtain ⟨A, cA, _, hcA, hC, hlook⟩ := HRW.out.get HM.out p.piece
              rw [← hF] at hcA hC hlook HTYp
              have hFm := hC.2.1
              have HCF := Aside0.mk hC
              have HFF := Aside0.mk hF
              obtain ⟨W5, hW5⟩ : ∃ W5, W5 = wr.alloc (.cells #[.int .i64 p.piece, .int .i64 p.frm, .int .i64 p.upto] 89) := ⟨_, rfl⟩
              have B5 : Aside0 (Below WR.heap.size WR W5) := ⟨by rw [hW5]; exact below_alloc HBs.out _⟩
              have X5 : Aside0 (Bx W5 wr.heap.size [.int .i64 p.piece, .int .i64 p.frm, .int .i64 p.upto]) := ⟨by rw [hW5]; exact Bx.new wr _ 89⟩
              have hl1 := hlook W5 B5.out
              have x50 := X5.out.c 0 _ rfl
              rw [hW5] at hl1 x50
              have HW5 := Aside0.mk hW5
              clear hlook hcA hC hF hW5
              go_wp2
              rw [← HW5.out]
              clear hl1 x50 x0 x1 x2 HW5
              obtain ⟨g, hg⟩ : ∃ g, g = wr.heap.size := ⟨_, rfl⟩
              rw [← hg] at X5 ⊢
              clear hg
              go_loopw [49] (fun v49 wq => ∃ k : Nat, v49 = .int .i64 k ∧ k ≤ F.length ∧ Aside0 (∀ q, q < k → ¬ (p.frm ≤ (F.getD q default).upto ∧ (F.getD q default).frm ≤ p.upto)) ∧ Aside0 (Below WR.heap.size WR wq) ∧ Aside0 (Bx wq g [.int .i64 p.piece, .int .i64 p.frm, .int .i64 p.upto])) (fun v49 _ => F.length - (intOf v49).toNat)
              case atStart => exact ⟨0, rfl, Nat.zero_le _, ⟨fun q hq => by omega⟩, B5, X5⟩
              case round =>
                clear X5 B5
                obtain ⟨k, rfl, hk, HT2, HB3, X5⟩ := hrel
                by_cases hlt2 : k < F.length
                · obtain ⟨ad2, e2, z0, z1, z2⟩ := at_Part HCF.out k hlt2
                  subst e2
                  replace z0 := pw_cell_below HB3.out z0
                  replace z1 := pw_cell_below HB3.out z1
                  replace z2 := pw_cell_below HB3.out z2
                  have hmem := getD_mem F k hlt2
                  obtain ⟨q, hq⟩ : ∃ q, q = F.getD k default := ⟨_, rfl⟩
                  rw [← hq] at z0 z1 z2 hmem
                  have HMEM := Aside0.mk hmem
                  have HQ := Aside0.mk hq
                  clear hq hmem
                  have X6 := Aside0.mk (X5.out.alloc (.cells #[.int .i64 q.piece, .int .i64 q.frm, .int .i64 q.upto] 89))
                  have B6 := Aside0.mk (below_alloc HB3.out (.cells #[.int .i64 q.piece, .int .i64 q.frm, .int .i64 q.upto] 89))
                  have g0 := X6.out.c 0 _ rfl; have g1 := X6.out.c 1 _ rfl; have g2 := X6.out.c 2 _ rfl
                  by_cases c1 : p.frm ≤ q.upto
                  · by_cases c2 : q.frm ≤ p.upto
                    · have HV := Aside0.mk (HTYp.out q HMEM.out c1 c2)
                      go_wp2
                      go_ret
                      exact ⟨by rw [HV.out]; rfl, below_more HBr.out B6.out⟩
                    · have HN := Aside0.mk (show ¬ (p.frm ≤ (F.getD k default).upto ∧ (F.getD k default).frm ≤ p.upto) by rw [← HQ.out]; exact fun h => c2 h.2)
                      go_wp2
                      go_roundw
                      case rel => exact ⟨k + 1, by go_num, by omega, ⟨upto_step HT2.out HN.out⟩, B6, X6⟩
                      case measure => simp [intOf]; omega
                  · have HN := Aside0.mk (show ¬ (p.frm ≤ (F.getD k default).upto ∧ (F.getD k default).frm ≤ p.upto) by rw [← HQ.out]; exact fun h => c1 h.1)
                    go_wp2
                    go_roundw
                    case rel => exact ⟨k + 1, by go_num, by omega, ⟨upto_step HT2.out HN.out⟩, B6, X6⟩
                    case measure => simp [intOf]; omega
                · go_wp2
                  go_roundw
                  case rel => exact ⟨j + 1, by go_num, by omega, ⟨upto_step HT.out (by rw [← HP.out]; exact miss_of HFF.out (fun k2 hk2 => HT2.out k2 (by omega)))⟩, HB3⟩
                  case measure => simp [intOf]; omega
            · have HV := Aside0.mk (touch_no' (fun q hq => HT.out q (by omega)))
              go_wp2
              go_ret
              exact ⟨by rw [HV.out]; rfl, HBw.out⟩
end Go.Proofs.Ytckcffjnffcjcaa
