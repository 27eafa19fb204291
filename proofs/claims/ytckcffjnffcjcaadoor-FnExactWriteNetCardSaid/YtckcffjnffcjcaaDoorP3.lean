/- Texts of this work, of each what the claim leans on: Net4, Spot1, Good, Drv, Gen0, Over, Gen2. No conditions. -/
import Derived.Test.YtckcffjnffcjcaaDoorP2
import Derived.Lib.ConvBytes
set_option linter.unusedVariables false
set_option linter.unusedSimpArgs false
namespace Go.Proofs.YtckcffjnffcjcaaDoor
open Go.RowKit Go.Proofs.YtckcffjnffcjcaaDoorW.PrintWords
theorem zeroBool (w : World) : (zeroValue 4).run Tryd.prog w = .ok (.bool false) w := by kernel_rfl
theorem zeroInt (w : World) : (zeroValue 3).run Tryd.prog w = .ok (.int .i64 0) w := by kernel_rfl
/-- A set of strings: what the look-up answers. -/
theorem set_get {w : World} {b : Nat} {l : List (ByteArray × Bool)} (h : MapOf keyStr .bool w b l) (k : ByteArray) :
    (Instr.lookup 77 (.map (some b)) (.string k) false).run Tryd.prog w = .ok (.bool ((lk l k).getD false)) w := by
  have := h.lookup (t := 77) (e := 4) Tryd.underlying77 (zeroBool w) k false
  refine this.trans ?_
  cases lk l k <;> rfl
theorem set_put {w : World} {b : Nat} {l : List (ByteArray × Bool)} (h : MapOf keyStr .bool w b l) (k : ByteArray) :
    ∃ o, (Instr.mapUpdate 77 (.map (some b)) (.string k) (.bool true)).run Tryd.prog w = .ok () (putMap w b o) ∧ MapOf keyStr .bool (putMap w b o) b (up l k true) :=
  h.update (t := 77) (e := 4) Tryd.underlying77 k true
/-- The set l holds just the names of xs. -/
def SetOf (l : List (ByteArray × Bool)) (f : ByteArray → Bool) : Prop := ∀ k, (lk l k).getD false = f k
theorem SetOf.nil : SetOf [] (fun _ => false) := fun _ => rfl
theorem SetOf.up {l : List (ByteArray × Bool)} {f : ByteArray → Bool} (h : SetOf l f) (k : ByteArray) : SetOf (up l k true) (fun x => f x || decide (k = x)) := fun x => by
  rw [lk_up]
  by_cases e : k = x
  · rw [if_pos e]; simp [e]
  · rw [if_neg e, h x]; simp [e]
theorem SetOf.congr {l : List (ByteArray × Bool)} {f g : ByteArray → Bool} (h : SetOf l f) (e : ∀ x, f x = g x) : SetOf l g := fun x => (h x).trans (e x)
theorem any_take {α : Type} [Inhabited α] {l : List α} {f : α → Bool} {i : Nat} (h : i < l.length) : (l.take (i + 1)).any f = ((l.take i).any f || f (l.getD i default)) := by
  rw [take_getD l i h, List.any_append]; simp
theorem jc_three {n : NetT} {i : Nat} (h : j3 n (n.joints.getD i default) = true) : (jointCode n i == 3) = true := by unfold jointCode; rw [if_pos h]; rfl
theorem jc_not3 {n : NetT} {i : Nat} (h : j3 n (n.joints.getD i default) = false) : (jointCode n i == 3) = false := by
  unfold jointCode; rw [if_neg (by rw [h]; simp)]; split <;> rfl
theorem jc_four {n : NetT} {i : Nat} (h : j3 n (n.joints.getD i default) = false) (h4 : j4 n i (n.joints.getD i default) = true) : (jointCode n i == 4) = true := by unfold jointCode; rw [if_neg (by rw [h]; simp), if_pos h4]; rfl
theorem jc_not4 {n : NetT} {i : Nat} (h : j3 n (n.joints.getD i default) = false) (h4 : j4 n i (n.joints.getD i default) = false) : (jointCode n i == 4) = false := by unfold jointCode; rw [if_neg (by rw [h]; simp), if_neg (by rw [h4]; simp)]; rfl
theorem netFault3' {n : NetT} (h : tooMany n = false) (h2 : (List.range n.pieces.length).find? (badPiece n) = none) {i : Nat} (hi : i < n.joints.length) (h3 : j3 n (n.joints.getD i default) = true) (hb : ∀ k, k < i → j3 n (n.joints.getD k default) = false) : netFault n = (3, (i : Int)) :=
  netFault3 h h2 (find_first hi (jc_three h3) (fun k hk => jc_not3 (hb k hk)))
theorem netFault4' {n : NetT} (h : tooMany n = false) (h2 : (List.range n.pieces.length).find? (badPiece n) = none) (h3 : ∀ k, k < n.joints.length → j3 n (n.joints.getD k default) = false) {i : Nat} (hi : i < n.joints.length) (h4 : j4 n i (n.joints.getD i default) = true) (hb : ∀ k, k < i → j4 n k (n.joints.getD k default) = false) : netFault n = (4, (i : Int)) :=
  netFault4 h h2 (find_none fun k hk => jc_not3 (h3 k hk)) (find_first hi (jc_four (h3 i hi) h4) (fun k hk => jc_not4 (h3 k (by omega)) (hb k hk)))
theorem j3_kind {n : NetT} {j : JointT} (h : ¬ (1 ≤ j.kind ∧ j.kind ≤ 4)) : j3 n j = true := by unfold j3; rw [inB_false.2 h]; rfl
theorem j3_end {n : NetT} {j : JointT} {q : Nat} (hq : q < j.ends.length) (h : endB n (j.ends.getD q default) = false) : j3 n j = true := by
  unfold j3
  have : j.ends.any (fun e => !endB n e) = true := by
    rw [List.any_eq_true]
    exact ⟨_, getD_mem j.ends q hq, by rw [h]; rfl⟩
  rw [this]; simp
theorem nameOk_ne {s : ByteArray} (h : nameOk s = true) : s.toList.isEmpty = false := by
  unfold nameOk at h
  simp only [Bool.and_eq_true, decide_eq_true_eq] at h
  rw [ByteArray.toList_eq]
  have := h.2.1
  have h2 : s.data.toList.length = s.size := by simp
  cases hq : s.data.toList with
  | nil => rw [hq] at h2; simp at h2; omega
  | cons => rfl
theorem Bx.put {W : World} {b k : Nat} {vs : List Value} {o : Obj} (h : Bx W b vs) (hk : b ≠ k) : Bx (putMap W k o) b vs := by
  have e : (putMap W k o).heap[b]? = W.heap[b]? := putMap_other W k o hk
  refine ⟨by unfold putMap; simpa using h.lt, fun i v hv => ?_, fun i => ?_⟩
  · have := h.c i v hv
    unfold World.cell? at this ⊢
    simp only at this ⊢
    rw [e]; exact this
  · have := h.f i
    unfold World.frozen? at this ⊢
    simp only at this ⊢
    rw [e]; exact this
theorem wrap64 {n : Int} (h0 : -9223372036854775808 ≤ n) (h1 : n ≤ 9223372036854775807) : IntKind.i64.wrap n = n := by
  simp [IntKind.wrap, IntKind.bits, IntKind.signed]; omega
/-- The map counts the ends of a list. -/
def CountOf (l : List (EndT × Int)) (es : List EndT) : Prop := ∀ e, (lk l e).getD 0 = (es.count e : Int)
theorem CountOf.up {l : List (EndT × Int)} {es : List EndT} (h : CountOf l es) (p : EndT) : CountOf (up l p ((lk l p).getD 0 + 1)) (es ++ [p]) := fun e => by
  rw [lk_up, List.count_append]
  by_cases he : p = e
  · rw [if_pos he, h p, ← he]; simp
  · rw [if_neg he, h e]
    have : List.count e [p] = 0 := List.count_eq_zero.2 (by simpa using fun h => he h.symm)
    rw [this]; simp
theorem flat_le (l : List JointT) (i : Nat) : ((l.take i).flatMap (·.ends)).length ≤ (l.flatMap (·.ends)).length := by
  conv => rhs; rw [← List.take_append_drop i l, List.flatMap_append, List.length_append]
  omega
theorem count_get {w : World} {b : Nat} {l : List (EndT × Int)} (h : MapOf keyEnd (.int .i64) w b l) (e : EndT) :
    (Instr.lookup 114 (.map (some b)) (.agg #[.int .i64 e.piece, .int .i64 e.side]) false).run Tryd.prog w = .ok (.int .i64 ((lk l e).getD 0)) w := by
  have := h.lookup (t := 114) (e := 3) Tryd.underlying114 (zeroInt w) e false
  refine this.trans ?_
  cases lk l e <;> rfl
theorem bump {w : World} {b : Nat} {l : List (EndT × Int)} (h : MapOf keyEnd (.int .i64) w b l) (e : EndT) :
    ∃ w1 w2 stamp, (Instr.lookup 114 (.map (some b)) (.agg #[.int .i64 e.piece, .int .i64 e.side]) false).run Tryd.prog w = .ok (.int .i64 ((lk l e).getD 0)) w ∧
      (Instr.mapEntry 114 (.map (some b)) (.agg #[.int .i64 e.piece, .int .i64 e.side])).run Tryd.prog w = .ok (.tuple #[.int .i64 ((lk l e).getD 0), .int .i64 stamp]) w1 ∧
      (Instr.lookup 114 (.map (some b)) (.agg #[.int .i64 e.piece, .int .i64 e.side]) false).run Tryd.prog w1 = .ok (.int .i64 ((lk l e).getD 0)) w1 ∧
      (Instr.entryStore 114 (.map (some b)) (.int .i64 stamp) (.int .i64 ((lk l e).getD 0 + 1))).run Tryd.prog w1 = .ok () w2 ∧
      MapOf keyEnd (.int .i64) w2 b (up l e ((lk l e).getD 0 + 1)) ∧ (∀ B w0, Below B w0 w → B ≤ b → Below B w0 w2) ∧ (∀ k vs, k ≠ b → Bx w k vs → Bx w2 k vs) := by
  obtain ⟨o, stamp, h1, h2, h3⟩ := h.entry (t := 114) (e := 3) (z := 0) Tryd.underlying114 (zeroInt w) e
  obtain ⟨o2, h4, h5⟩ := h3 ((lk l e).getD 0 + 1) _ rfl
  refine ⟨_, _, stamp, count_get h e, h1, ?_, h4, h5, fun B w0 hb hB => putMap_below (putMap_below hb hB) hB, fun k vs hk hx => (hx.put hk).put hk⟩
  have := count_get h2 e
  rw [lk_up, if_pos rfl] at this
  exact this
set_option maxRecDepth 100000 in
set_option maxHeartbeats 2000000 in
theorem implNetOk_any (n : NetT) (u : (Option Addr × Nat) × (Option Addr × Nat)) (w : World) (hr : RdNet 56 w u n) (hs : ∀ x ∈ n.joints, x.name.size ≤ 9223372036854775807) (hps : ∀ x ∈ n.pieces, x.name.size ≤ 9223372036854775807) (hb : (allEnds n).length ≤ 1048576) :
    Calls Tryd.prog 43 #[.agg #[.slice u.1.1 n.pieces.length u.1.2, .slice u.2.1 n.joints.length u.2.2]] w
      fun e w' => e = .returned (.agg #[.int .i64 (netFault n).1, .int .i64 (netFault n).2]) ∧ Below w.heap.size w w' := by
  have hm := hr.2.1.2.1
  have hpm := hr.1.1.2.1
  have HRN := Aside0.mk hr
  have HRJ := Aside0.mk hr.2.1
  have HRP := Aside0.mk hr.1.1
  have HS := Aside0.mk hs
  have HPS := Aside0.mk hps
  clear hr hs hps
  obtain ⟨⟨A0, c0⟩, ⟨A1, c1⟩⟩ := u
  obtain ⟨W0, hW0⟩ : ∃ W0 : World, W0 = ((w.alloc (.cells #[.slice A0 n.pieces.length c0, .slice A1 n.joints.length c1] 31)).alloc (.cells #[.int .i64 0, .int .i64 0] 73)).alloc (.map #[] 0) := ⟨_, rfl⟩
  have HN : Aside0 (Bx W0 w.heap.size [.slice A0 n.pieces.length c0, .slice A1 n.joints.length c1]) := ⟨by rw [hW0]; exact ((Bx.new w [.slice A0 n.pieces.length c0, .slice A1 n.joints.length c1] 31).alloc _).alloc _⟩
  have HX : Aside0 (Bx W0 (w.heap.size + 1) [.int .i64 0, .int .i64 0]) := ⟨by
    have := (Bx.new (w.alloc (.cells #[.slice A0 n.pieces.length c0, .slice A1 n.joints.length c1] 31)) [.int .i64 0, .int .i64 0] 73).alloc (.map #[] 0)
    rw [hW0]; simpa using this⟩
  have HM0 : Aside0 (MapOf keyStr .bool W0 (w.heap.size + 1 + 1) []) := ⟨by
    have := MapOf.made keyStr .bool ((w.alloc (.cells #[.slice A0 n.pieces.length c0, .slice A1 n.joints.length c1] 31)).alloc (.cells #[.int .i64 0, .int .i64 0] 73))
    rw [hW0]; simpa using this⟩
  have fb := Aside0.mk (show Below w.heap.size w W0 by rw [hW0]; exact below_three _ _ _ _)
  have HW := Aside0.mk hW0
  have HSZ := Aside0.mk (show W0.heap.size = w.heap.size + 3 by rw [hW0]; simp)
  clear hW0
  by_cases h0 : n.pieces.length = 0
  · have z0 : ((n.pieces.length : Int) == 0) = true := by rw [h0]; rfl
    have HT := Aside0.mk (netFault1 (n := n) (by unfold tooMany; simp [h0]))
    clear h0
    go_enter Tryd.func43, Tryd.ntmps43
    go_wp2
    refine bodyPost_ret (v := .agg #[.int .i64 1, .int .i64 0]) (by simp [results, Tryd.results43, go_sem]) rfl ⟨by rw [HT.out], below_two _ _ _⟩
  have z0 : ((n.pieces.length : Int) == 0) = false := by simpa using h0
  by_cases h1 : 100 < n.pieces.length
  · have HT := Aside0.mk (netFault1 (n := n) (by unfold tooMany; simp [h1]))
    go_enter Tryd.func43, Tryd.ntmps43
    go_wp2
    refine bodyPost_ret (v := .agg #[.int .i64 1, .int .i64 0]) (by simp [results, Tryd.results43, go_sem]) rfl ⟨by rw [HT.out], below_two _ _ _⟩
  by_cases h2 : 120 < n.joints.length
  · have HT := Aside0.mk (netFault1 (n := n) (by unfold tooMany; simp [h2]))
    go_enter Tryd.func43, Tryd.ntmps43
    go_wp2
    refine bodyPost_ret (v := .agg #[.int .i64 1, .int .i64 0]) (by simp [results, Tryd.results43, go_sem]) rfl ⟨by rw [HT.out], below_two _ _ _⟩
  have HT : Aside0 (tooMany n = false) := ⟨by unfold tooMany; simp [h0, h1, h2]⟩
  have hmm := @run_makeMap Tryd.prog
  go_enter Tryd.func43, Tryd.ntmps43
  go_wp2
  rw [← HW.out]
  have t1 : n.pieces.length ≤ 100 := by omega
  have t2 : n.joints.length ≤ 120 := by omega
  clear h0 h1 h2 z0
  go_loopw [39] (fun v39 wr => ∃ (i : Nat) (l : List (ByteArray × Bool)), v39 = .int .i64 i ∧ i ≤ n.pieces.length ∧ Aside0 (∀ k, k < i → badPiece n k = false) ∧ Aside0 (MapOf keyStr .bool wr (w.heap.size + 1 + 1) l) ∧ Aside0 (SetOf l (fun k => (n.pieces.take i).any (fun x => decide (x.name = k)))) ∧ Aside0 (Below w.heap.size w wr) ∧ Aside0 (Bx wr w.heap.size [.slice A0 n.pieces.length c0, .slice A1 n.joints.length c1]) ∧ Aside0 (Bx wr (w.heap.size + 1) [.int .i64 0, .int .i64 0])) (fun v39 _ => n.pieces.length - (intOf v39).toNat)
  case atStart => exact ⟨0, [], rfl, Nat.zero_le _, ⟨fun k hk => by omega⟩, HM0, ⟨SetOf.nil.congr fun x => by simp⟩, fb, HN, HX⟩
  case round =>
    obtain ⟨i, l, rfl, hi, HI, HM, HL, HB, HNr, HXr⟩ := hrel
    have n0 := HNr.out.c 0 _ rfl
    have n1 := HNr.out.c 1 _ rfl
    by_cases hlt : i < n.pieces.length
    · obtain ⟨ad0, e0, y0, y1, y2, y3⟩ := at_Piece HRP.out i hlt
      replace y0 := pw_cell_below HB.out y0
      replace y1 := pw_cell_below HB.out y1
      replace y2 := pw_cell_below HB.out y2
      replace y3 := pw_cell_below HB.out y3
      have hpn := HPS.out _ (getD_mem n.pieces i hlt)
      obtain ⟨p, hp⟩ : ∃ p, p = n.pieces.getD i default := ⟨_, rfl⟩
      rw [← hp] at y0 y1 y2 y3 hpn
      have HP := Aside0.mk hp
      clear hp
      subst e0
      obtain ⟨W1, hW1⟩ : ∃ W1 : World, W1 = wr.alloc (.cells #[.string p.name, .int .i64 p.len, .int .i64 p.speed, .int .i64 p.brake] 49) := ⟨_, rfl⟩
      have HLo : Aside0 (Bx W1 wr.heap.size [.string p.name, .int .i64 p.len, .int .i64 p.speed, .int .i64 p.brake]) := ⟨by rw [hW1]; exact Bx.new wr _ 49⟩
      have HN1 : Aside0 (Bx W1 w.heap.size [.slice (some ad0) n.pieces.length c0, .slice A1 n.joints.length c1]) := ⟨by rw [hW1]; exact HNr.out.alloc _⟩
      have HX1 : Aside0 (Bx W1 (w.heap.size + 1) [.int .i64 0, .int .i64 0]) := ⟨by rw [hW1]; exact HXr.out.alloc _⟩
      have HM1 : Aside0 (MapOf keyStr .bool W1 (w.heap.size + 1 + 1) l) := ⟨by rw [hW1]; exact HM.out.alloc _⟩
      have HB1 : Aside0 (Below w.heap.size w W1) := ⟨by rw [hW1]; exact below_alloc HB.out _⟩
      have HW1 := Aside0.mk hW1
      clear hW1
      cases hpb : pieceB p with
      | false =>
        have HT2 := Aside0.mk (netFault2 HT.out (find_first (p := badPiece n) hlt (by unfold badPiece; rw [← HP.out, hpb]; rfl) HI.out))
        go_wp2_with (go_at_call 41; rw [← HW1.out]; refine (pieceOk_any _ _ hpn).mono ?_; rintro e w3 ⟨rfl, hb3⟩; have HB3 := Aside0.mk (below_more HB1.out hb3); have HX3 := Aside0.mk (HX1.out.below hb3); clear hb3; have x0 := HX3.out.c 0 _ rfl; have x1 := HX3.out.c 1 _ rfl; have xf0 := HX3.out.f 0; have xf1 := HX3.out.f 1; have as1 := HX3.out.lt)
        refine bodyPost_ret (v := .agg #[.int .i64 2, .int .i64 i]) (by simp [results, Tryd.results43, go_sem, x0, x1, as1]) rfl ⟨by rw [HT2.out], ?_⟩
        repeat (first | (with_reducible exact HB3.out) | (with_reducible refine below_set ?_ (by omega)) | (with_reducible refine below_alloc ?_ _))
      | true =>
        have HPB := Aside0.mk hpb
        cases hd : (n.pieces.take i).any (fun x => decide (x.name = p.name)) with
        | true =>
          have HT2 := Aside0.mk (netFault2 HT.out (find_first (p := badPiece n) hlt (by unfold badPiece; rw [← HP.out, hpb, hd]; rfl) HI.out))
          have HD := Aside0.mk (show (lk l p.name).getD false = true from (HL.out p.name).trans hd)
          go_wp2_with (go_at_call 41; rw [← HW1.out]; refine (pieceOk_any _ _ hpn).mono ?_; rintro e w3 ⟨rfl, hb3⟩; have hget := set_get (HM1.out.below hb3) p.name; rw [HD.out] at hget; have HB3 := Aside0.mk (below_more HB1.out hb3); have HX3 := Aside0.mk (HX1.out.below hb3); have HL3 := Aside0.mk (HLo.out.below hb3); clear hb3; have l0 := HL3.out.c 0 _ rfl; have x0 := HX3.out.c 0 _ rfl; have x1 := HX3.out.c 1 _ rfl; have xf0 := HX3.out.f 0; have xf1 := HX3.out.f 1; have as1 := HX3.out.lt)
          refine bodyPost_ret (v := .agg #[.int .i64 2, .int .i64 i]) (by simp [results, Tryd.results43, go_sem, x0, x1, as1]) rfl ⟨by rw [HT2.out], ?_⟩
          repeat (first | (with_reducible exact HB3.out) | (with_reducible refine below_set ?_ (by omega)) | (with_reducible refine below_alloc ?_ _))
        | false =>
          have HBP := Aside0.mk (show badPiece n i = false by unfold badPiece; rw [← HP.out, hpb, hd]; rfl)
          have HD := Aside0.mk (show (lk l p.name).getD false = false from (HL.out p.name).trans hd)
          go_wp2_with (go_at_call 41; rw [← HW1.out]; refine (pieceOk_any _ _ hpn).mono ?_; rintro e w3 ⟨rfl, hb3⟩; have HM3 := Aside0.mk (HM1.out.below hb3); have hget := set_get HM3.out p.name; rw [HD.out] at hget; obtain ⟨ob, hput, hM4⟩ := set_put HM3.out p.name; have HM4 := Aside0.mk hM4; clear hM4; have HB3 := Aside0.mk (below_more HB1.out hb3); have HX3 := Aside0.mk (HX1.out.below hb3); have HN3 := Aside0.mk (HN1.out.below hb3); have HL3 := Aside0.mk (HLo.out.below hb3); clear hb3; have l0 := HL3.out.c 0 _ rfl)
          go_roundw
          case rel => exact ⟨i + 1, up l p.name true, by go_num, by omega, ⟨upto_step HI.out HBP.out⟩, HM4, ⟨(HL.out.up p.name).congr (fun x => by rw [any_take hlt, ← HP.out])⟩, ⟨putMap_below HB3.out (by omega)⟩, ⟨HN3.out.put (by omega)⟩, ⟨HX3.out.put (by omega)⟩⟩
          case measure => simp [intOf]; omega
    · have HI2 := Aside0.mk (find_none (p := badPiece n) (n := n.pieces.length) (fun k hk => HI.out k (by omega)))
      go_wp2
      clear n0 n1
      go_loopw [62] (fun v62 wr => ∃ (i : Nat), v62 = .int .i64 i ∧ i ≤ n.joints.length ∧ Aside0 (∀ k, k < i → j3 n (n.joints.getD k default) = false) ∧ Aside0 (Below w.heap.size w wr) ∧ Aside0 (Bx wr w.heap.size [.slice A0 n.pieces.length c0, .slice A1 n.joints.length c1]) ∧ Aside0 (Bx wr (w.heap.size + 1) [.int .i64 0, .int .i64 0])) (fun v62 _ => n.joints.length - (intOf v62).toNat)
      case atStart => exact ⟨0, rfl, Nat.zero_le _, ⟨fun k hk => by omega⟩, HB, HNr, HXr⟩
      case round =>
        clear HI HM HL HB HNr HXr hi hlt
        obtain ⟨i, rfl, hi, HI, HB, HNr, HXr⟩ := hrel
        have n0 := HNr.out.c 0 _ rfl
        have n1 := HNr.out.c 1 _ rfl
        by_cases hlt : i < n.joints.length
        · obtain ⟨ad0, B0, k0, e0, y0, y1, y2, m0, g0⟩ := at_Joint HRJ.out i hlt
          subst e0
          replace y0 := pw_cell_below HB.out y0
          replace y1 := pw_cell_below HB.out y1
          replace y2 := pw_cell_below HB.out y2
          have HG := Aside0.mk g0
          have hgm := g0.2.1
          clear g0 m0
          obtain ⟨j, hj⟩ : ∃ j, j = n.joints.getD i default := ⟨_, rfl⟩
          rw [← hj] at y0 y1 y2 HG hgm
          have HJ := Aside0.mk hj
          clear hj
          obtain ⟨W1, hW1⟩ : ∃ W1 : World, W1 = wr.alloc (.cells #[.int .i64 j.kind, .string j.name, .slice B0 j.ends.length k0] 53) := ⟨_, rfl⟩
          have HLo : Aside0 (Bx W1 wr.heap.size [.int .i64 j.kind, .string j.name, .slice B0 j.ends.length k0]) := ⟨by rw [hW1]; exact Bx.new wr _ 53⟩
          have HN1 : Aside0 (Bx W1 w.heap.size [.slice A0 n.pieces.length c0, .slice (some ad0) n.joints.length c1]) := ⟨by rw [hW1]; exact HNr.out.alloc _⟩
          have HX1 : Aside0 (Bx W1 (w.heap.size + 1) [.int .i64 0, .int .i64 0]) := ⟨by rw [hW1]; exact HXr.out.alloc _⟩
          have HBr : Aside0 (Below w.heap.size w W1) := ⟨by rw [hW1]; exact below_alloc HB.out _⟩
          have HW1 := Aside0.mk hW1
          clear hW1
          have x0 := HXr.out.c 0 _ rfl
          have x1 := HXr.out.c 1 _ rfl
          have xf0 := HXr.out.f 0
          have xf1 := HXr.out.f 1
          have as1 := HXr.out.lt
          by_cases hk1 : j.kind < 1
          · have HT2 := Aside0.mk (netFault3' HT.out HI2.out hlt (by rw [← HJ.out]; exact j3_kind (by omega)) HI.out)
            go_wp2
            refine bodyPost_ret (v := .agg #[.int .i64 3, .int .i64 i]) (by simp [results, Tryd.results43, go_sem, x0, x1, as1]) rfl ⟨by rw [HT2.out], ?_⟩
            repeat (first | (with_reducible exact HB.out) | (with_reducible refine below_set ?_ (by omega)) | (with_reducible refine below_alloc ?_ _))
          by_cases hk4 : 4 < j.kind
          · have HT2 := Aside0.mk (netFault3' HT.out HI2.out hlt (by rw [← HJ.out]; exact j3_kind (by omega)) HI.out)
            go_wp2
            refine bodyPost_ret (v := .agg #[.int .i64 3, .int .i64 i]) (by simp [results, Tryd.results43, go_sem, x0, x1, as1]) rfl ⟨by rw [HT2.out], ?_⟩
            repeat (first | (with_reducible exact HB.out) | (with_reducible refine below_set ?_ (by omega)) | (with_reducible refine below_alloc ?_ _))
          have HK := Aside0.mk (show inB j.kind 1 4 = true from inB_true.2 (by omega))
          cases hl : ((j.ends.length : Int) != j.kind) with
          | true =>
            have HT2 := Aside0.mk (netFault3' HT.out HI2.out hlt (by rw [← HJ.out]; unfold j3; rw [hl]; simp) HI.out)
            go_wp2
            refine bodyPost_ret (v := .agg #[.int .i64 3, .int .i64 i]) (by simp [results, Tryd.results43, go_sem, x0, x1, as1]) rfl ⟨by rw [HT2.out], ?_⟩
            repeat (first | (with_reducible exact HB.out) | (with_reducible refine below_set ?_ (by omega)) | (with_reducible refine below_alloc ?_ _))
          | false =>
            have HLn := Aside0.mk hl
            go_wp2
            rw [← HW1.out]
            clear x0 x1 xf0 xf1 as1 y0 y1 y2 n0 n1 hl hk1 hk4
            go_loopw [88] (fun v88 wq => ∃ q : Nat, v88 = .int .i64 q ∧ q ≤ j.ends.length ∧ Aside0 ((j.ends.take q).any (fun e => !endB n e) = false) ∧ Aside0 (Below W1.heap.size W1 wq)) (fun v88 _ => j.ends.length - (intOf v88).toNat)
            case atStart => exact ⟨0, rfl, Nat.zero_le _, ⟨by simp⟩, ⟨Below.refl _ _⟩⟩
            case round =>
              obtain ⟨q, rfl, hq, HQ, HBq⟩ := hrel
              have HNq := Aside0.mk (HN1.out.below HBq.out)
              have HXq := Aside0.mk (HX1.out.below HBq.out)
              have HBw := Aside0.mk (below_more HBr.out HBq.out)
              have n0 := HNq.out.c 0 _ rfl
              have x0 := HXq.out.c 0 _ rfl
              have x1 := HXq.out.c 1 _ rfl
              have xf0 := HXq.out.f 0
              have xf1 := HXq.out.f 1
              have as0 := HNq.out.lt
              have as1 := HXq.out.lt
              by_cases hqt : q < j.ends.length
              · obtain ⟨ad1, e1, z0, z1⟩ := at_End HG.out q hqt
                subst e1
                replace z0 := pw_cell_below HBw.out z0
                replace z1 := pw_cell_below HBw.out z1
                obtain ⟨p, hp⟩ : ∃ p, p = j.ends.getD q default := ⟨_, rfl⟩
                rw [← hp] at z0 z1
                have HP := Aside0.mk hp
                clear hp
                cases he : endB n p with
                | true =>
                  have HE := Aside0.mk he
                  have hin := he
                  unfold endB at hin
                  simp only [Bool.and_eq_true, inB_true] at hin
                  obtain ⟨⟨g0, g1⟩, g2, g3⟩ := hin
                  have g1' : p.piece < (n.pieces.length : Int) := by omega
                  clear g1 he
                  go_wp2
                  go_roundw
                  case rel => exact ⟨q + 1, by go_num, by omega, ⟨any_step hqt HQ.out (by rw [← HP.out, HE.out]; rfl)⟩, ⟨below_alloc HBq.out _⟩⟩
                  case measure => simp [intOf]; omega
                | false =>
                  have HT2 := Aside0.mk (netFault3' HT.out HI2.out hlt (by rw [← HJ.out]; exact j3_end hqt (by rw [← HP.out, he])) HI.out)
                  have HE := Aside0.mk (show ¬ (0 ≤ p.piece ∧ p.piece < (n.pieces.length : Int) ∧ 0 ≤ p.side ∧ p.side ≤ 1) from fun h => by
                    unfold endB at he
                    rw [inB_true.2 (by omega), inB_true.2 (by omega)] at he
                    cases he)
                  clear he
                  go_wp2
                  all_goals first
                    | (exfalso; have := HE.out; omega)
                    | (refine bodyPost_ret (v := .agg #[.int .i64 3, .int .i64 i]) (by simp [results, Tryd.results43, go_sem, x0, x1, as1]) rfl ⟨by rw [HT2.out], ?_⟩
                       repeat (first | (with_reducible exact HBw.out) | (with_reducible refine below_set ?_ (by omega)) | (with_reducible refine below_alloc ?_ _)))
              · have HJ3 := Aside0.mk (show j3 n (n.joints.getD i default) = false by
                  rw [← HJ.out]; unfold j3
                  have h6 := HQ.out
                  rw [List.take_of_length_le (by omega)] at h6
                  rw [HK.out, HLn.out, h6]; rfl)
                go_wp2
                go_roundw
                case rel => exact ⟨i + 1, by go_num, by omega, ⟨upto_step HI.out HJ3.out⟩, HBw, HNq, HXq⟩
                case measure => simp [intOf]; omega
        · have HI3 := Aside0.mk (show ∀ k, k < n.joints.length → j3 n (n.joints.getD k default) = false from fun k hk => HI.out k (by omega))
          have as0 := HNr.out.lt
          have as1 := HXr.out.lt
          go_wp2
          obtain ⟨W2, hW2⟩ : ∃ W2 : World, W2 = wr.alloc (.map #[] 0) := ⟨_, rfl⟩
          have HM2 : Aside0 (MapOf keyStr .bool W2 wr.heap.size []) := ⟨by rw [hW2]; exact MapOf.made keyStr .bool wr⟩
          have HN2 : Aside0 (Bx W2 w.heap.size [.slice A0 n.pieces.length c0, .slice A1 n.joints.length c1]) := ⟨by rw [hW2]; exact HNr.out.alloc _⟩
          have HX2 : Aside0 (Bx W2 (w.heap.size + 1) [.int .i64 0, .int .i64 0]) := ⟨by rw [hW2]; exact HXr.out.alloc _⟩
          have HB2 : Aside0 (Below w.heap.size w W2) := ⟨by rw [hW2]; exact below_alloc HB.out _⟩
          rw [← hW2]
          obtain ⟨mb, hmb⟩ : ∃ mb, mb = wr.heap.size := ⟨_, rfl⟩
          have HMB := Aside0.mk (show w.heap.size + 1 < mb by rw [hmb]; exact as1)
          rw [← hmb] at HM2 ⊢
          clear hW2 hmb n0 n1 as0 as1 HI hi hlt HB HNr HXr
          go_loopw [121] (fun v121 wr => ∃ (i : Nat) (l : List (ByteArray × Bool)), v121 = .int .i64 i ∧ i ≤ n.joints.length ∧ Aside0 (∀ k, k < i → j4 n k (n.joints.getD k default) = false) ∧ Aside0 (MapOf keyStr .bool wr mb l) ∧ Aside0 (∀ k : ByteArray, k.toList.isEmpty = false → (lk l k).getD false = (n.joints.take i).any (fun x => decide (x.name = k))) ∧ Aside0 (Below w.heap.size w wr) ∧ Aside0 (Bx wr w.heap.size [.slice A0 n.pieces.length c0, .slice A1 n.joints.length c1]) ∧ Aside0 (Bx wr (w.heap.size + 1) [.int .i64 0, .int .i64 0])) (fun v121 _ => n.joints.length - (intOf v121).toNat)
          case atStart => exact ⟨0, [], rfl, Nat.zero_le _, ⟨fun k hk => by omega⟩, HM2, ⟨fun k hk => by simp [lk]⟩, HB2, HN2, HX2⟩
          case round =>
            obtain ⟨i, l, rfl, hi, HI, HM, HL, HB, HNr, HXr⟩ := hrel
            have x0 := HXr.out.c 0 _ rfl
            have x1 := HXr.out.c 1 _ rfl
            have xf0 := HXr.out.f 0
            have xf1 := HXr.out.f 1
            have as1 := HXr.out.lt
            by_cases hlt : i < n.joints.length
            · obtain ⟨ad0, B0, k0, e0, y0, y1, y2, m0, g0⟩ := at_Joint HRJ.out i hlt
              subst e0
              replace y0 := pw_cell_below HB.out y0
              replace y1 := pw_cell_below HB.out y1
              replace y2 := pw_cell_below HB.out y2
              clear g0 m0
              have hjn := HS.out _ (getD_mem n.joints i hlt)
              obtain ⟨j, hj⟩ : ∃ j, j = n.joints.getD i default := ⟨_, rfl⟩
              rw [← hj] at y0 y1 y2 hjn
              have HJ := Aside0.mk hj
              clear hj
              have HLO := Aside0.mk (Bx.new wr [.int .i64 j.kind, .string j.name, .slice B0 j.ends.length k0] 53)
              have HNw := Aside0.mk (HNr.out.alloc (.cells #[.int .i64 j.kind, .string j.name, .slice B0 j.ends.length k0] 53))
              have HXw := Aside0.mk (HXr.out.alloc (.cells #[.int .i64 j.kind, .string j.name, .slice B0 j.ends.length k0] 53))
              have HMw := Aside0.mk (HM.out.alloc (.cells #[.int .i64 j.kind, .string j.name, .slice B0 j.ends.length k0] 53))
              have HBw := Aside0.mk (below_alloc HB.out (.cells #[.int .i64 j.kind, .string j.name, .slice B0 j.ends.length k0] 53))
              by_cases hk2 : j.kind ≤ 2
              · cases hem : j.name.toList.isEmpty with
                | false =>
                  have HT2 := Aside0.mk (netFault4' HT.out HI2.out HI3.out hlt (by rw [← HJ.out]; unfold j4; rw [if_pos (by omega), hem]; rfl) HI.out)
                  go_wp2
                  refine bodyPost_ret (v := .agg #[.int .i64 4, .int .i64 i]) (by simp [results, Tryd.results43, go_sem, x0, x1, as1]) rfl ⟨by rw [HT2.out], ?_⟩
                  repeat (first | (with_reducible exact HB.out) | (with_reducible refine below_set ?_ (by omega)) | (with_reducible refine below_alloc ?_ _))
                | true =>
                  have HJ4 := Aside0.mk (show j4 n i (n.joints.getD i default) = false by rw [← HJ.out]; unfold j4; rw [if_pos (by omega), hem]; rfl)
                  have HE := Aside0.mk hem
                  go_wp2
                  go_roundw
                  case rel => exact ⟨i + 1, l, by go_num, by omega, ⟨upto_step HI.out HJ4.out⟩, HMw, ⟨fun k hk => by
                    rw [any_take hlt, ← HJ.out, HL.out k hk]
                    have : decide (j.name = k) = false := decide_eq_false (fun h => by rw [← h, HE.out] at hk; cases hk)
                    rw [this, Bool.or_false]⟩, HBw, HNw, HXw⟩
                  case measure => simp [intOf]; omega
              · cases hnm : nameOk j.name with
                | false =>
                  have HT2 := Aside0.mk (netFault4' HT.out HI2.out HI3.out hlt (by rw [← HJ.out]; unfold j4; rw [if_neg (by omega), hnm]; rfl) HI.out)
                  go_wp2_with (go_at_call 39; refine (named_any _ _ hjn).mono ?_; rintro e w3 ⟨rfl, rfl⟩)
                  refine bodyPost_ret (v := .agg #[.int .i64 4, .int .i64 i]) (by simp [results, Tryd.results43, go_sem, x0, x1, as1]) rfl ⟨by rw [HT2.out], ?_⟩
                  repeat (first | (with_reducible exact HB.out) | (with_reducible refine below_set ?_ (by omega)) | (with_reducible refine below_alloc ?_ _))
                | true =>
                  have HNE := Aside0.mk (nameOk_ne hnm)
                  have hget := set_get HMw.out j.name
                  rw [HL.out _ HNE.out] at hget
                  cases hd : (n.joints.take i).any (fun x => decide (x.name = j.name)) with
                  | true =>
                    have HT2 := Aside0.mk (netFault4' HT.out HI2.out HI3.out hlt (by rw [← HJ.out]; unfold j4; rw [if_neg (by omega), hd]; simp) HI.out)
                    rw [hd] at hget
                    go_wp2_with (go_at_call 39; refine (named_any _ _ hjn).mono ?_; rintro e w3 ⟨rfl, rfl⟩)
                    refine bodyPost_ret (v := .agg #[.int .i64 4, .int .i64 i]) (by simp [results, Tryd.results43, go_sem, x0, x1, as1]) rfl ⟨by rw [HT2.out], ?_⟩
                    repeat (first | (with_reducible exact HB.out) | (with_reducible refine below_set ?_ (by omega)) | (with_reducible refine below_alloc ?_ _))
                  | false =>
                    have HJ4 := Aside0.mk (show j4 n i (n.joints.getD i default) = false by rw [← HJ.out]; unfold j4; rw [if_neg (by omega), hnm, hd]; rfl)
                    rw [hd] at hget
                    obtain ⟨ob, hput, hM4⟩ := set_put HMw.out j.name
                    have HM4 := Aside0.mk hM4
                    clear hM4
                    go_wp2_with (go_at_call 39; refine (named_any _ _ hjn).mono ?_; rintro e w3 ⟨rfl, rfl⟩)
                    go_roundw
                    case rel => exact ⟨i + 1, up l j.name true, by go_num, by omega, ⟨upto_step HI.out HJ4.out⟩, HM4, ⟨fun k hk => by
                      rw [any_take hlt, ← HJ.out, lk_up]
                      by_cases e : j.name = k
                      · rw [if_pos e]; simp [e]
                      · rw [if_neg e, HL.out k hk]; simp [e]⟩, ⟨putMap_below HBw.out (by have := HMB.out; omega)⟩, ⟨HNw.out.put (by have := HMB.out; omega)⟩, ⟨HXw.out.put (by have := HMB.out; omega)⟩⟩
                    case measure => simp [intOf]; omega
            · have HJ4 := Aside0.mk (show (List.range n.joints.length).find? (fun i => jointCode n i == 4) = none from find_none fun k hk => jc_not4 (HI3.out k hk) (HI.out k (by omega)))
              have HJ3 := Aside0.mk (show (List.range n.joints.length).find? (fun i => jointCode n i == 3) = none from find_none fun k hk => jc_not3 (HI3.out k hk))
              have n0 := HNr.out.c 0 _ rfl
              have n1 := HNr.out.c 1 _ rfl
              have as0 := HNr.out.lt
              clear x0 x1 xf0 xf1
              go_wp2
              obtain ⟨W4, hW4⟩ : ∃ W4 : World, W4 = wr.alloc (.map #[] 0) := ⟨_, rfl⟩
              have HC4 : Aside0 (MapOf keyEnd (.int .i64) W4 wr.heap.size []) := ⟨by rw [hW4]; exact MapOf.made keyEnd (.int .i64) wr⟩
              have HN4 : Aside0 (Bx W4 w.heap.size [.slice A0 n.pieces.length c0, .slice A1 n.joints.length c1]) := ⟨by rw [hW4]; exact HNr.out.alloc _⟩
              have HX4 : Aside0 (Bx W4 (w.heap.size + 1) [.int .i64 0, .int .i64 0]) := ⟨by rw [hW4]; exact HXr.out.alloc _⟩
              have HB4 : Aside0 (Below w.heap.size w W4) := ⟨by rw [hW4]; exact below_alloc HB.out _⟩
              rw [← hW4]
              obtain ⟨cb, hcb⟩ : ∃ cb, cb = wr.heap.size := ⟨_, rfl⟩
              have HCB := Aside0.mk (show w.heap.size + 1 < cb by rw [hcb]; exact as1)
              rw [← hcb] at HC4 ⊢
              clear hW4 hcb n0 n1 as0 as1 HI hi hlt HB HNr HXr HM HL
              go_loopw [154] (fun v154 wr => ∃ (i : Nat) (l : List (EndT × Int)), v154 = .int .i64 i ∧ i ≤ n.joints.length ∧ Aside0 (MapOf keyEnd (.int .i64) wr cb l) ∧ Aside0 (CountOf l ((n.joints.take i).flatMap (·.ends))) ∧ Aside0 (Below w.heap.size w wr) ∧ Aside0 (Bx wr w.heap.size [.slice A0 n.pieces.length c0, .slice A1 n.joints.length c1]) ∧ Aside0 (Bx wr (w.heap.size + 1) [.int .i64 0, .int .i64 0])) (fun v154 _ => n.joints.length - (intOf v154).toNat)
              case atStart => exact ⟨0, [], rfl, Nat.zero_le _, HC4, ⟨fun e => by simp [lk]⟩, HB4, HN4, HX4⟩
              case round =>
                obtain ⟨i, l, rfl, hi, HM, HL, HB, HNr, HXr⟩ := hrel
                by_cases hlt : i < n.joints.length
                · obtain ⟨ad0, B0, k0, e0, y0, y1, y2, m0, g0⟩ := at_Joint HRJ.out i hlt
                  subst e0
                  replace y0 := pw_cell_below HB.out y0
                  replace y1 := pw_cell_below HB.out y1
                  replace y2 := pw_cell_below HB.out y2
                  have HG := Aside0.mk g0
                  have hgm := g0.2.1
                  clear g0 m0
                  have HS := Aside0.mk (flat_step (·.ends) n.joints i hlt)
                  have HBnd := Aside0.mk (flat_le n.joints i)
                  obtain ⟨j, hj⟩ : ∃ j, j = n.joints.getD i default := ⟨_, rfl⟩
                  rw [← hj] at y0 y1 y2 HG hgm HS
                  have HJ := Aside0.mk hj
                  clear hj
                  have HNw := Aside0.mk (HNr.out.alloc (.cells #[.int .i64 j.kind, .string j.name, .slice B0 j.ends.length k0] 53))
                  have HXw := Aside0.mk (HXr.out.alloc (.cells #[.int .i64 j.kind, .string j.name, .slice B0 j.ends.length k0] 53))
                  have HMw := Aside0.mk (HM.out.alloc (.cells #[.int .i64 j.kind, .string j.name, .slice B0 j.ends.length k0] 53))
                  have HBw := Aside0.mk (below_alloc HB.out (.cells #[.int .i64 j.kind, .string j.name, .slice B0 j.ends.length k0] 53))
                  go_wp2
                  go_loopw [161] (fun v161 wq => ∃ (q : Nat) (l' : List (EndT × Int)), v161 = .int .i64 q ∧ q ≤ j.ends.length ∧ Aside0 (MapOf keyEnd (.int .i64) wq cb l') ∧ Aside0 (CountOf l' ((n.joints.take i).flatMap (·.ends) ++ j.ends.take q)) ∧ Aside0 (Below w.heap.size w wq) ∧ Aside0 (Bx wq w.heap.size [.slice A0 n.pieces.length c0, .slice (some ad0) n.joints.length c1]) ∧ Aside0 (Bx wq (w.heap.size + 1) [.int .i64 0, .int .i64 0])) (fun v161 _ => j.ends.length - (intOf v161).toNat)
                  case atStart => exact ⟨0, l, rfl, Nat.zero_le _, HMw, ⟨by simpa using HL.out⟩, HBw, HNw, HXw⟩
                  case round =>
                    obtain ⟨q, l', rfl, hq, HMq, HLq, HBq, HNq, HXq⟩ := hrel
                    by_cases hqt : q < j.ends.length
                    · obtain ⟨ad1, e1, z0, z1⟩ := at_End HG.out q hqt
                      subst e1
                      replace z0 := pw_cell_below HBq.out z0
                      replace z1 := pw_cell_below HBq.out z1
                      have HT3 := Aside0.mk (take_getD j.ends q hqt)
                      obtain ⟨p, hp⟩ : ∃ p, p = j.ends.getD q default := ⟨_, rfl⟩
                      rw [← hp] at z0 z1 HT3
                      clear hp
                      obtain ⟨c, hc, hc0, hc1⟩ : ∃ c : Int, c = (lk l' p).getD 0 ∧ 0 ≤ c ∧ c ≤ 1048576 := ⟨_, rfl, by rw [HLq.out p]; omega, by
                        rw [HLq.out p]
                        have h1 := HBnd.out
                        have h2 : ((n.joints.take i).flatMap (·.ends) ++ j.ends.take q).count p ≤ ((n.joints.take i).flatMap (·.ends) ++ j.ends.take q).length := List.count_le_length ..
                        have h3 : (j.ends.take q).length ≤ j.ends.length := by rw [List.length_take]; omega
                        have h4 := congrArg List.length HS.out
                        rw [List.length_append] at h2 h4
                        have h5 := flat_le n.joints (i + 1)
                        have h6 : (n.joints.flatMap (·.ends)).length ≤ 1048576 := hb
                        omega⟩
                      obtain ⟨Wl, hWl⟩ : ∃ Wl : World, Wl = wr.alloc (.cells #[.int .i64 p.piece, .int .i64 p.side] 56) := ⟨_, rfl⟩
                      have HLo : Aside0 (Bx Wl wr.heap.size [.int .i64 p.piece, .int .i64 p.side]) := ⟨by rw [hWl]; exact Bx.new wr _ 56⟩
                      have HNl : Aside0 (Bx Wl w.heap.size [.slice A0 n.pieces.length c0, .slice (some ad0) n.joints.length c1]) := ⟨by rw [hWl]; exact HNq.out.alloc _⟩
                      have HXl : Aside0 (Bx Wl (w.heap.size + 1) [.int .i64 0, .int .i64 0]) := ⟨by rw [hWl]; exact HXq.out.alloc _⟩
                      have HMl : Aside0 (MapOf keyEnd (.int .i64) Wl cb l') := ⟨by rw [hWl]; exact HMq.out.alloc _⟩
                      have HBl : Aside0 (Below w.heap.size w Wl) := ⟨by rw [hWl]; exact below_alloc HBq.out _⟩
                      have HWl := Aside0.mk hWl
                      clear hWl
                      obtain ⟨W5, W6, stamp, b1, b2, b3, b4, b5, b6, b7⟩ := bump (HMl.out.move (w1 := Wl.drew) rfl) p
                      rw [← hc] at b1 b2 b3 b4 b5
                      have B5 := Aside0.mk b5
                      have B6 := Aside0.mk b6
                      have B7 := Aside0.mk b7
                      have hsum : IntKind.i64.wrap (c + 1) = c + 1 := wrap64 (by omega) (by omega)
                      have HC := Aside0.mk hc
                      clear b5 b6 b7 hc
                      go_wp2
                      rw [← HWl.out]
                      have l0 := HLo.out.c 0 _ rfl
                      have l1 := HLo.out.c 1 _ rfl
                      clear z0 z1
                      go_region
                      all_goals
                        go_wp2
                        go_roundw
                        case rel => exact ⟨q + 1, up l' p (c + 1), by go_num, by omega, ⟨B5.out⟩, ⟨by
                          have := HLq.out.up p
                          rw [← HC.out, List.append_assoc, ← HT3.out] at this
                          exact this⟩, ⟨B6.out _ _ HBl.out.drew (by have := HCB.out; omega)⟩, ⟨B7.out _ _ (by have := HCB.out; omega) (HNl.out.below (Below.refl _ _).drew)⟩, ⟨B7.out _ _ (by have := HCB.out; omega) (HXl.out.below (Below.refl _ _).drew)⟩⟩
                        case measure => simp [intOf]; omega
                    · go_wp2
                      go_roundw
                      case rel => exact ⟨i + 1, l', by go_num, by omega, HMq, ⟨by
                        have := HLq.out
                        rw [List.take_of_length_le (show j.ends.length ≤ q by omega), ← HS.out] at this
                        exact this⟩, HBq, HNq, HXq⟩
                      case measure => simp [intOf]; omega
                · have HLa := Aside0.mk (show CountOf l (allEnds n) by
                    have := HL.out
                    rw [List.take_of_length_le (by omega)] at this
                    exact this)
                  have n0 := HNr.out.c 0 _ rfl
                  go_wp2
                  go_loopw [176] (fun v176 wr => ∃ i : Nat, v176 = .int .i64 i ∧ i ≤ n.pieces.length ∧ Aside0 (∀ k, k < i → badUse n k = false) ∧ Aside0 (MapOf keyEnd (.int .i64) wr cb l) ∧ Aside0 (Below w.heap.size w wr) ∧ Aside0 (Bx wr (w.heap.size + 1) [.int .i64 0, .int .i64 0])) (fun v176 _ => n.pieces.length - (intOf v176).toNat)
                  case atStart => exact ⟨0, rfl, Nat.zero_le _, ⟨fun k hk => by omega⟩, HM, HB, HXr⟩
                  case round =>
                    clear HB HM HNr HXr n0 hi hlt
                    obtain ⟨i, rfl, hi, HU, HM, HB, HXr⟩ := hrel
                    have x0 := HXr.out.c 0 _ rfl
                    have x1 := HXr.out.c 1 _ rfl
                    have xf0 := HXr.out.f 0
                    have xf1 := HXr.out.f 1
                    have as1 := HXr.out.lt
                    by_cases hlt : i < n.pieces.length
                    · have g0 := count_get HM.out ⟨i, 0⟩
                      have g1 := count_get HM.out ⟨i, 1⟩
                      rw [HLa.out ⟨i, 0⟩] at g0
                      rw [HLa.out ⟨i, 1⟩] at g1
                      simp only at g0 g1
                      by_cases hu0 : uses n ⟨i, 0⟩ = 1
                      · have e0 : ((allEnds n).count ⟨i, 0⟩ : Int) = 1 := by
                          have : (allEnds n).count ⟨i, 0⟩ = 1 := hu0
                          omega
                        rw [e0] at g0
                        by_cases hu1 : uses n ⟨i, 1⟩ = 1
                        · have e1 : ((allEnds n).count ⟨i, 1⟩ : Int) = 1 := by
                            have : (allEnds n).count ⟨i, 1⟩ = 1 := hu1
                            omega
                          rw [e1] at g1
                          have HBU := Aside0.mk (show badUse n i = false by unfold badUse; simp [hu0, hu1])
                          clear hu0 hu1
                          go_wp2
                          go_roundw
                          case rel => exact ⟨i + 1, by go_num, by omega, ⟨upto_step HU.out HBU.out⟩, HM, HB, HXr⟩
                          case measure => simp [intOf]; omega
                        · have HT2 := Aside0.mk (netFault5 HT.out HI2.out HJ3.out HJ4.out (find_first (p := badUse n) hlt (by unfold badUse; simp [hu1]) HU.out))
                          obtain ⟨c, hc⟩ : ∃ c : Int, c = ((allEnds n).count ⟨i, 1⟩ : Int) := ⟨_, rfl⟩
                          rw [← hc] at g1
                          have hne : (c != 1) = true := by
                            have : (allEnds n).count ⟨i, 1⟩ ≠ 1 := hu1
                            simp; omega
                          clear hc hu0 hu1
                          go_wp2
                          refine bodyPost_ret (v := .agg #[.int .i64 5, .int .i64 i]) (by simp [results, Tryd.results43, go_sem, x0, x1, as1]) rfl ⟨by rw [HT2.out], ?_⟩
                          repeat (first | (with_reducible exact HB.out) | (with_reducible refine below_set ?_ (by omega)) | (with_reducible refine below_alloc ?_ _))
                      · have HT2 := Aside0.mk (netFault5 HT.out HI2.out HJ3.out HJ4.out (find_first (p := badUse n) hlt (by unfold badUse; simp [hu0]) HU.out))
                        obtain ⟨c, hc⟩ : ∃ c : Int, c = ((allEnds n).count ⟨i, 0⟩ : Int) := ⟨_, rfl⟩
                        rw [← hc] at g0
                        have hne : (c != 1) = true := by
                          have : (allEnds n).count ⟨i, 0⟩ ≠ 1 := hu0
                          simp; omega
                        clear hc hu0
                        go_wp2
                        refine bodyPost_ret (v := .agg #[.int .i64 5, .int .i64 i]) (by simp [results, Tryd.results43, go_sem, x0, x1, as1]) rfl ⟨by rw [HT2.out], ?_⟩
                        repeat (first | (with_reducible exact HB.out) | (with_reducible refine below_set ?_ (by omega)) | (with_reducible refine below_alloc ?_ _))
                    · have HT2 := Aside0.mk (netFault0 HT.out HI2.out HJ3.out HJ4.out (find_none (p := badUse n) (n := n.pieces.length) (fun k hk => HU.out k (by omega))))
                      go_wp2
                      refine bodyPost_ret (v := .agg #[.int .i64 0, .int .i64 0]) (by simp [results, Tryd.results43, go_sem, x0, x1, as1]) rfl ⟨by rw [HT2.out], ?_⟩
                      repeat (first | (with_reducible exact HB.out) | (with_reducible refine below_set ?_ (by omega)) | (with_reducible refine below_alloc ?_ _))
end Go.Proofs.YtckcffjnffcjcaaDoor
set_option linter.unusedVariables false
set_option linter.unusedSimpArgs false
namespace Go.Proofs.YtckcffjnffcjcaaDoor
open Go.RowKit Go.Proofs.YtckcffjnffcjcaaDoorW.PrintWords
def netGood (n : NetT) : Bool := (netFault n).1 == 0
theorem netGood_iff {n : NetT} : netGood n = true ↔ netFault n = (0, 0) := by
  unfold netGood
  rw [beq_iff_eq]
  refine ⟨fun h => ?_, fun h => by rw [h]⟩
  unfold netFault at h ⊢
  split at h
  · cases h
  · split at h
    · cases h
    · split at h
      · cases h
      · split at h
        · cases h
        · split at h
          · cases h
          · rename_i h1 _ _ _ _ _ _ _ _
            rw [if_neg h1]
set_option maxRecDepth 100000 in
theorem l1ok_any (n : NetT) (u : (Option Addr × Nat) × (Option Addr × Nat)) (w : World) (hr : RdNet 56 w u n) (hf : NetFits n) :
    Calls Tryd.prog 21 #[.agg #[.slice u.1.1 n.pieces.length u.1.2, .slice u.2.1 n.joints.length u.2.2]] w
      fun e w' => e = .returned (.bool (netGood n)) ∧ Below w.heap.size w w' := by
  have HR := Aside0.mk hr
  have HF := Aside0.mk hf
  clear hr hf
  obtain ⟨⟨A0, c0⟩, ⟨A1, c1⟩⟩ := u
  go_enter Tryd.func21, Tryd.ntmps21
  go_wp2_with (go_at_call 35; refine (specNetOk_any n ((A0, c0), (A1, c1)) _ (HR.out.below (below_alloc (Below.refl _ _) _)) HF.out.jn HF.out.pn HF.out.all).mono ?_; rintro e w3 ⟨rfl, hb3⟩; have HB := Aside0.mk (below_more (below_alloc (Below.refl _ _) _) hb3); clear hb3)
  go_ret
  exact ⟨rfl, below_alloc HB.out _⟩
set_option maxRecDepth 100000 in
theorem good_any (n : NetT) (u : (Option Addr × Nat) × (Option Addr × Nat)) (w : World) (hr : RdNet 56 w u n) (hf : NetFits n) :
    Calls Tryd.prog 25 #[.agg #[.slice u.1.1 n.pieces.length u.1.2, .slice u.2.1 n.joints.length u.2.2]] w
      fun e w' => e = .returned (.bool (netGood n)) ∧ Below w.heap.size w w' := by
  have HR := Aside0.mk hr
  have HF := Aside0.mk hf
  clear hr hf
  obtain ⟨⟨A0, c0⟩, ⟨A1, c1⟩⟩ := u
  cases hg : netGood n with
  | true =>
    have HN := Aside0.mk (netGood_iff.1 hg)
    clear hg
    go_enter Tryd.func25, Tryd.ntmps25
    go_wp2_with (go_at_call 43; refine (implNetOk_any n ((A0, c0), (A1, c1)) _ (HR.out.below (below_alloc (Below.refl _ _) _)) HF.out.jn HF.out.pn HF.out.all).mono ?_; rintro e w3 ⟨rfl, hb3⟩; rw [HN.out]; have HB := Aside0.mk (below_more (below_alloc (Below.refl _ _) _) hb3); clear hb3)
    go_ret
    exact ⟨rfl, HB.out⟩
  | false =>
    have hz : (netFault n).1 ≠ 0 := fun h => by unfold netGood at hg; rw [h] at hg; cases hg
    obtain ⟨⟨f0, f1⟩, hF⟩ : ∃ f, f = netFault n := ⟨_, rfl⟩
    rw [← hF] at hz
    have hz' : f0 ≠ 0 := hz
    clear hz
    have HN := Aside0.mk hF
    clear hg hF
    go_enter Tryd.func25, Tryd.ntmps25
    go_wp2_with (go_at_call 43; refine (implNetOk_any n ((A0, c0), (A1, c1)) _ (HR.out.below (below_alloc (Below.refl _ _) _)) HF.out.jn HF.out.pn HF.out.all).mono ?_; rintro e w3 ⟨rfl, hb3⟩; rw [← HN.out]; have HB := Aside0.mk (below_more (below_alloc (Below.refl _ _) _) hb3); clear hb3)
    all_goals
      go_ret
      exact ⟨rfl, HB.out⟩
end Go.Proofs.YtckcffjnffcjcaaDoor
set_option linter.unusedVariables false
set_option linter.unusedSimpArgs false
namespace Go.Proofs.YtckcffjnffcjcaaDoor
open Go.RowKit Go.Proofs.YtckcffjnffcjcaaDoorW.PrintWords
theorem range_none {p : Nat → Bool} {n : Nat} (h : (List.range n).find? p = none) : ∀ k, k < n → p k = false := fun k hk => by
  have := List.find?_eq_none.1 h k (List.mem_range.2 hk)
  simpa using this
/-- What a good net is. -/
structure Good (n : NetT) : Prop where
  p0 : n.pieces.length ≠ 0
  p1 : n.pieces.length ≤ 100
  j1 : n.joints.length ≤ 120
  pc : ∀ i, i < n.pieces.length → badPiece n i = false
  jc3 : ∀ i, i < n.joints.length → j3 n (n.joints.getD i default) = false
  jc4 : ∀ i, i < n.joints.length → j4 n i (n.joints.getD i default) = false
  us : ∀ i, i < n.pieces.length → badUse n i = false
theorem Good.of {n : NetT} (h : netGood n = true) : Good n := by
  have h0 := netGood_iff.1 h
  unfold netFault at h0
  split at h0
  · cases h0
  · rename_i ht
    split at h0
    · cases h0
    · rename_i _ h2
      split at h0
      · cases h0
      · rename_i _ h3
        split at h0
        · cases h0
        · rename_i _ h4
          split at h0
          · cases h0
          · rename_i _ h5
            unfold tooMany at ht
            simp only [Bool.or_eq_true, beq_iff_eq, decide_eq_true_eq, not_or] at ht
            have g2 := range_none h2
            have g3 := range_none h3
            have g4 := range_none h4
            have g5 := range_none h5
            have k3 : ∀ i, i < n.joints.length → j3 n (n.joints.getD i default) = false := fun i hi => by
              cases hq : j3 n (n.joints.getD i default) with
              | false => rfl
              | true => have := g3 i hi; rw [jc_three hq] at this; cases this
            refine ⟨ht.1.1, by omega, by omega, g2, k3, fun i hi => ?_, g5⟩
            cases hq : j4 n i (n.joints.getD i default) with
            | false => rfl
            | true => have := g4 i hi; rw [jc_four (k3 i hi) hq] at this; cases this
theorem Good.joint {n : NetT} (h : Good n) {j : JointT} (hj : j ∈ n.joints) : 1 ≤ j.kind ∧ j.kind ≤ 4 ∧ (j.ends.length : Int) = j.kind ∧ ∀ e ∈ j.ends, endB n e = true := by
  obtain ⟨i, hi, he⟩ := List.getElem_of_mem hj
  have h3 := h.jc3 i hi
  rw [getD_at _ _ hi, he] at h3
  unfold j3 at h3
  simp only [Bool.or_eq_false_iff, Bool.not_eq_false', bne_eq_false_iff_eq] at h3
  have hk := inB_true.1 h3.1.1
  refine ⟨hk.1, hk.2, h3.1.2, fun e he2 => ?_⟩
  have := List.any_eq_false.1 h3.2 e he2
  simpa using this
theorem Good.piece {n : NetT} (h : Good n) {p : PieceT} (hp : p ∈ n.pieces) : 1 ≤ p.len ∧ p.len ≤ 10000000 ∧ 1 ≤ p.speed ∧ p.speed ≤ 10000 ∧ 1 ≤ p.brake ∧ p.brake ≤ 1000 := by
  obtain ⟨i, hi, he⟩ := List.getElem_of_mem hp
  have h3 := h.pc i hi
  unfold badPiece at h3
  rw [getD_at _ _ hi, he] at h3
  simp only [Bool.or_eq_false_iff, Bool.not_eq_false'] at h3
  have := h3.1
  unfold pieceB at this
  simp only [Bool.and_eq_true] at this
  have a := inB_true.1 this.1.1.2
  have b := inB_true.1 this.1.2
  have c := inB_true.1 this.2
  exact ⟨a.1, a.2, b.1, b.2, c.1, c.2⟩
end Go.Proofs.YtckcffjnffcjcaaDoor
set_option linter.unusedVariables false
set_option linter.unusedSimpArgs false
namespace Go.Proofs.YtckcffjnffcjcaaDoor
/-- The kinds. -/
theorem Good.kindAt {n : NetT} (h : Good n) {i : Nat} (hi : i < n.joints.length) :
    1 ≤ (n.joints.getD i default).kind ∧ (n.joints.getD i default).kind ≤ 4 ∧ (((n.joints.getD i default).ends.length : Int) = (n.joints.getD i default).kind) ∧ ∀ q, q < (n.joints.getD i default).ends.length → endB n ((n.joints.getD i default).ends.getD q default) = true := by
  have := h.joint (getD_mem n.joints i hi)
  exact ⟨this.1, this.2.1, this.2.2.1, fun q hq => this.2.2.2 _ (getD_mem _ q hq)⟩
def lenP (n : NetT) (p : Int) : Int := (n.pieces.getD p.toNat default).len
theorem Good.len {n : NetT} (h : Good n) {p : Int} (h0 : 0 ≤ p) (h1 : p < (n.pieces.length : Int)) : 1 ≤ lenP n p ∧ lenP n p ≤ 10000000 := by
  obtain ⟨i, rfl⟩ := Int.eq_ofNat_of_zero_le h0
  have := h.piece (getD_mem n.pieces i (by omega))
  unfold lenP
  rw [Int.toNat_natCast]
  exact ⟨this.1, this.2.1⟩
end Go.Proofs.YtckcffjnffcjcaaDoor
set_option linter.unusedVariables false
set_option linter.unusedSimpArgs false
namespace Go.Proofs.YtckcffjnffcjcaaDoor
open Go.RowKit Go.Proofs.YtckcffjnffcjcaaDoorW.PrintWords
/-- A whole number's digits. -/
def decF : Nat → Nat → List UInt8 → List UInt8
  | 0, _, r => r
  | f + 1, n, r => if n = 0 then r else decF f (n / 10) ((48 + UInt8.ofNat (n % 10)) :: r)
def decL (n : Nat) : List UInt8 := if n = 0 then [48] else decF n n []
end Go.Proofs.YtckcffjnffcjcaaDoor
set_option linter.unusedVariables false
set_option linter.unusedSimpArgs false
namespace Go.Proofs.YtckcffjnffcjcaaDoor
open Go.RowKit Go.Proofs.YtckcffjnffcjcaaDoorW.PrintWords
/-- Two values laid in boxes. -/
theorem box2 (w : World) (a b : List Value) (s t : TypeId) : ∃ W0, W0 = (w.alloc (.cells a.toArray s)).alloc (.cells b.toArray t) ∧ Bx W0 w.heap.size a ∧ Bx W0 (w.heap.size + 1) b ∧ Below w.heap.size w W0 ∧ W0.heap.size = w.heap.size + 2 := by
  refine ⟨_, rfl, (Bx.new w a s).alloc _, ?_, below_two _ _ _, by simp⟩
  have := Bx.new (w.alloc (.cells a.toArray s)) b t
  simpa using this
end Go.Proofs.YtckcffjnffcjcaaDoor
set_option linter.unusedVariables false
set_option linter.unusedSimpArgs false
namespace Go.Proofs.YtckcffjnffcjcaaDoor
open Go.RowKit Go.WideShapes Go.Proofs.YtckcffjnffcjcaaDoorW.PrintWords
theorem decF_zero (f : Nat) (r : List UInt8) : decF f 0 r = r := by cases f <;> simp [decF]
theorem bytes_cons (x : UInt8) (r : List UInt8) : (⟨#[x]⟩ : ByteArray) ++ ⟨r.toArray⟩ = ⟨(x :: r).toArray⟩ := bytes_inj (by simp)
/-- string([]byte{d}). -/
theorem one_byte (w : World) (d : Int) (m : Nat) (hd : d = (m : Int)) : (convert 41 9 (.slice (some ⟨w.heap.size, 0, none⟩) 1 1)).run Tryd.prog (w.alloc (.cells #[.int .u8 d] 5)) = .ok (.string ⟨#[UInt8.ofNat m]⟩) (w.alloc (.cells #[.int .u8 d] 5)) := by
  have h : ReadsInt (w.alloc (.cells #[.int .u8 d] 5)) .u8 (some ⟨w.heap.size, 0, none⟩) 1 [d] := ⟨rfl, by omega, fun _ => ⟨_, rfl, fun j hj => by
    have e : j = 0 := by omega
    subst e
    exact (Bx.new w [.int .u8 d] 5).c 0 _ rfl⟩⟩
  have := string_of_reads (c := 1) Tryd.underlying41 Tryd.underlying5 Tryd.underlying9 h
  rw [this]
  subst hd
  rfl
set_option maxRecDepth 100000 in
set_option maxHeartbeats 2000000 in
theorem dec_any (n : Nat) (w : World) (hn : n ≤ 1000000000) :
    Calls Tryd.prog 22 #[.int .i64 (n : Int)] w fun e w' => e = .returned (.string ⟨(decL n).toArray⟩) ∧ Below w.heap.size w w' := by
  by_cases h0 : n = 0
  · subst h0
    go_enter Tryd.func22, Tryd.ntmps22
    go_wp2
    go_ret
    exact ⟨rfl, Below.refl _ _⟩
  · have hz : ((n : Int) == 0) = false := by simp; omega
    have HV : Aside0 (decL n = decF n n []) := ⟨by unfold decL; rw [if_neg h0]⟩
    clear h0
    go_enter Tryd.func22, Tryd.ntmps22
    go_wp2
    go_loopw [0, 3] (fun v0 v3 wr => ∃ (m f : Nat) (r : List UInt8), v0 = .int .i64 (m : Int) ∧ v3 = .string ⟨r.toArray⟩ ∧ m ≤ n ∧ m ≤ f ∧ r.length + m ≤ n ∧ Aside0 (decF f m r = decL n) ∧ Aside0 (Below w.heap.size w wr)) (fun v0 _ _ => (intOf v0).toNat)
    case atStart => exact ⟨n, n, [], rfl, rfl, Nat.le_refl _, Nat.le_refl _, by simp, ⟨HV.out.symm⟩, ⟨Below.refl _ _⟩⟩
    case round =>
      obtain ⟨m, f, r, rfl, rfl, hm, hf, hrl, HD, HB⟩ := hrel
      by_cases hp : 0 < m
      · have hb := one_byte wr (48 + (m : Int) % 10) (48 + m % 10) (by omega)
        go_wp2
        go_roundw
        case rel =>
          obtain ⟨f, rfl⟩ : ∃ f', f = f' + 1 := ⟨f - 1, by omega⟩
          refine ⟨m / 10, f, (48 + UInt8.ofNat (m % 10)) :: r, by go_num, congrArg Value.string (bytes_cons _ _), by omega, by omega, by simp; omega, ⟨?_⟩, ⟨below_alloc HB.out _⟩⟩
          rw [← HD.out]
          show _ = (if m = 0 then r else _)
          rw [if_neg (by omega)]
        case measure => simp [intOf]; omega
      · go_wp2
        go_ret
        have e : m = 0 := by omega
        subst e
        refine ⟨by rw [← HD.out, decF_zero]; rfl, HB.out⟩
theorem decF_len : ∀ (f n : Nat) (r : List UInt8), (decF f n r).length ≤ r.length + n
  | 0, n, r => by simp [decF]
  | f + 1, n, r => by
    simp only [decF]
    split
    · omega
    · have := decF_len f (n / 10) ((48 + UInt8.ofNat (n % 10)) :: r)
      simp only [List.length_cons] at this
      omega
theorem decL_len (n : Nat) : (decL n).length ≤ n + 1 := by
  unfold decL
  split
  · simp
  · have := decF_len n n []
    simp at this
    omega
end Go.Proofs.YtckcffjnffcjcaaDoor
