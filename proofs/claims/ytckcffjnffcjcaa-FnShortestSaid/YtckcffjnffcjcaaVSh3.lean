/- Texts of this work, of each what the claim leans on: Net4, Spot1, Spot2, Good, At, Joint, Drv. No conditions. -/
import Derived.Test.YtckcffjnffcjcaaVSh2
set_option linter.unusedVariables false
set_option linter.unusedSimpArgs false
namespace Go.Proofs.Ytckcffjnffcjcaa
open Go.RowKit Go.Proofs.YtckcffjnffcjcaaW.PrintWords
theorem zeroBool (w : World) : (zeroValue 4).run Try.prog w = .ok (.bool false) w := by kernel_rfl
theorem zeroInt (w : World) : (zeroValue 3).run Try.prog w = .ok (.int .i64 0) w := by kernel_rfl
theorem set_get {w : World} {b : Nat} {l : List (ByteArray × Bool)} (h : MapOf keyStr .bool w b l) (k : ByteArray) :
    (Instr.lookup 151 (.map (some b)) (.string k) false).run Try.prog w = .ok (.bool ((lk l k).getD false)) w := by
  have := h.lookup (t := 151) (e := 4) Try.underlying151 (zeroBool w) k false
  refine this.trans ?_
  cases lk l k <;> rfl
theorem set_put {w : World} {b : Nat} {l : List (ByteArray × Bool)} (h : MapOf keyStr .bool w b l) (k : ByteArray) :
    ∃ o, (Instr.mapUpdate 151 (.map (some b)) (.string k) (.bool true)).run Try.prog w = .ok () (putMap w b o) ∧ MapOf keyStr .bool (putMap w b o) b (up l k true) :=
  h.update (t := 151) (e := 4) Try.underlying151 k true
def SetOf (l : List (ByteArray × Bool)) (f : ByteArray → Bool) : Prop := ∀ k, (lk l k).getD false = f k
theorem SetOf.nil : SetOf [] (fun _ => false) := fun _ => rfl
theorem SetOf.up {l : List (ByteArray × Bool)} {f : ByteArray → Bool} (h : SetOf l f) (k : ByteArray) : SetOf (up l k true) (fun x => f x || decide (k = x)) := fun x => by
  rw [lk_up]
  by_cases e : k = x
  · rw [if_pos e]; simp [e]
  · rw [if_neg e, h x]; simp [e]
theorem SetOf.congr {l : List (ByteArray × Bool)} {f g : ByteArray → Bool} (h : SetOf l f) (e : ∀ x, f x = g x) : SetOf l g := fun x => (h x).trans (e x)
theorem any_take {α : Type} [Inhabited α] {l : List α} {f : α → Bool} {i : Nat} (h : i < l.length) : (l.take (i + 1)).any f = ((l.take i).any f || f (l.getD i default)) := by
  rw [take_getD l i h, List.any_append]; simp
theorem jc_three {n : NetT} {i : Nat} (h : j3 n (n.joints.getD i default) = true) : (jointCode n i == 3) = true := by unfold jointCode; rw [if_pos h]; rfl
theorem jc_not3 {n : NetT} {i : Nat} (h : j3 n (n.joints.getD i default) = false) : (jointCode n i == 3) = false := by
  unfold jointCode; rw [if_neg (by rw [h]; simp)]; split <;> rfl
theorem jc_four {n : NetT} {i : Nat} (h : j3 n (n.joints.getD i default) = false) (h4 : j4 n i (n.joints.getD i default) = true) : (jointCode n i == 4) = true := by unfold jointCode; rw [if_neg (by rw [h]; simp), if_pos h4]; rfl
theorem jc_not4 {n : NetT} {i : Nat} (h : j3 n (n.joints.getD i default) = false) (h4 : j4 n i (n.joints.getD i default) = false) : (jointCode n i == 4) = false := by unfold jointCode; rw [if_neg (by rw [h]; simp), if_neg (by rw [h4]; simp)]; rfl
theorem netFault3' {n : NetT} (h : tooMany n = false) (h2 : (List.range n.pieces.length).find? (badPiece n) = none) {i : Nat} (hi : i < n.joints.length) (h3 : j3 n (n.joints.getD i default) = true) (hb : ∀ k, k < i → j3 n (n.joints.getD k default) = false) : netFault n = (3, (i : Int)) :=
  netFault3 h h2 (find_first hi (jc_three h3) (fun k hk => jc_not3 (hb k hk)))
theorem netFault4' {n : NetT} (h : tooMany n = false) (h2 : (List.range n.pieces.length).find? (badPiece n) = none) (h3 : ∀ k, k < n.joints.length → j3 n (n.joints.getD k default) = false) {i : Nat} (hi : i < n.joints.length) (h4 : j4 n i (n.joints.getD i default) = true) (hb : ∀ k, k < i → j4 n k (n.joints.getD k default) = false) : netFault n = (4, (i : Int)) :=
  netFault4 h h2 (find_none fun k hk => jc_not3 (h3 k hk)) (find_first hi (jc_four (h3 i hi) h4) (fun k hk => jc_not4 (h3 k (by omega)) (hb k hk)))
theorem j3_kind {n : NetT} {j : JointT} (h : ¬ (1 ≤ j.kind ∧ j.kind ≤ 4)) : j3 n j = true := by unfold j3; rw [inB_false.2 h]; rfl
theorem j3_end {n : NetT} {j : JointT} {q : Nat} (hq : q < j.ends.length) (h : endB n (j.ends.getD q default) = false) : j3 n j = true := by
  unfold j3
  have : j.ends.any (fun e => !endB n e) = true := by
    rw [List.any_eq_true]
    exact ⟨_, getD_mem j.ends q hq, by rw [h]; rfl⟩
  rw [this]; simp
theorem nameOk_ne {s : ByteArray} (h : nameOk s = true) : s.toList.isEmpty = false := by
  unfold nameOk at h
  simp only [Bool.and_eq_true, decide_eq_true_eq] at h
  rw [ByteArray.toList_eq]
  have := h.2.1
  have h2 : s.data.toList.length = s.size := by simp
  cases hq : s.data.toList with
  | nil => rw [hq] at h2; simp at h2; omega
  | cons => rfl
theorem Bx.put {W : World} {b k : Nat} {vs : List Value} {o : Obj} (h : Bx W b vs) (hk : b ≠ k) : Bx (putMap W k o) b vs := by
  have e : (putMap W k o).heap[b]? = W.heap[b]? := putMap_other W k o hk
  refine ⟨by unfold putMap; simpa using h.lt, fun i v hv => ?_, fun i => ?_⟩
  · have := h.c i v hv
    unfold World.cell? at this ⊢
    simp only at this ⊢
    rw [e]; exact this
  · have := h.f i
    unfold World.frozen? at this ⊢
    simp only at this ⊢
    rw [e]; exact this
theorem wrap64 {n : Int} (h0 : -9223372036854775808 ≤ n) (h1 : n ≤ 9223372036854775807) : IntKind.i64.wrap n = n := by
  simp [IntKind.wrap, IntKind.bits, IntKind.signed]; omega
def CountOf (l : List (EndT × Int)) (es : List EndT) : Prop := ∀ e, (lk l e).getD 0 = (es.count e : Int)
theorem CountOf.up {l : List (EndT × Int)} {es : List EndT} (h : CountOf l es) (p : EndT) : CountOf (up l p ((lk l p).getD 0 + 1)) (es ++ [p]) := fun e => by
  rw [lk_up, List.count_append]
  by_cases he : p = e
  · rw [if_pos he, h p, ← he]; simp
  · rw [if_neg he, h e]
    have : List.count e [p] = 0 := List.count_eq_zero.2 (by simpa using fun h => he h.symm)
    rw [this]; simp
theorem flat_le (l : List JointT) (i : Nat) : ((l.take i).flatMap (·.ends)).length ≤ (l.flatMap (·.ends)).length := by
  conv => rhs; rw [← List.take_append_drop i l, List.flatMap_append, List.length_append]
  omega
theorem count_get {w : World} {b : Nat} {l : List (EndT × Int)} (h : MapOf keyEnd (.int .i64) w b l) (e : EndT) :
    (Instr.lookup 153 (.map (some b)) (.agg #[.int .i64 e.piece, .int .i64 e.side]) false).run Try.prog w = .ok (.int .i64 ((lk l e).getD 0)) w := by
  have := h.lookup (t := 153) (e := 3) Try.underlying153 (zeroInt w) e false
  refine this.trans ?_
  cases lk l e <;> rfl
theorem bump {w : World} {b : Nat} {l : List (EndT × Int)} (h : MapOf keyEnd (.int .i64) w b l) (e : EndT) :
    ∃ w1 w2 stamp, (Instr.lookup 153 (.map (some b)) (.agg #[.int .i64 e.piece, .int .i64 e.side]) false).run Try.prog w = .ok (.int .i64 ((lk l e).getD 0)) w ∧
      (Instr.mapEntry 153 (.map (some b)) (.agg #[.int .i64 e.piece, .int .i64 e.side])).run Try.prog w = .ok (.tuple #[.int .i64 ((lk l e).getD 0), .int .i64 stamp]) w1 ∧
      (Instr.lookup 153 (.map (some b)) (.agg #[.int .i64 e.piece, .int .i64 e.side]) false).run Try.prog w1 = .ok (.int .i64 ((lk l e).getD 0)) w1 ∧
      (Instr.entryStore 153 (.map (some b)) (.int .i64 stamp) (.int .i64 ((lk l e).getD 0 + 1))).run Try.prog w1 = .ok () w2 ∧
      MapOf keyEnd (.int .i64) w2 b (up l e ((lk l e).getD 0 + 1)) ∧ (∀ B w0, Below B w0 w → B ≤ b → Below B w0 w2) ∧ (∀ k vs, k ≠ b → Bx w k vs → Bx w2 k vs) := by
  obtain ⟨o, stamp, h1, h2, h3⟩ := h.entry (t := 153) (e := 3) (z := 0) Try.underlying153 (zeroInt w) e
  obtain ⟨o2, h4, h5⟩ := h3 ((lk l e).getD 0 + 1) _ rfl
  refine ⟨_, _, stamp, count_get h e, h1, ?_, h4, h5, fun B w0 hb hB => putMap_below (putMap_below hb hB) hB, fun k vs hk hx => (hx.put hk).put hk⟩
  have := count_get h2 e
  rw [lk_up, if_pos rfl] at this
  exact this
set_option maxRecDepth 100000 in
set_option maxHeartbeats 2000000 in
theorem implNetOk_any (n : NetT) (u : (Option Addr × Nat) × (Option Addr × Nat)) (w : World) (hr : RdNet 67 w u n) (hs : ∀ x ∈ n.joints, x.name.size ≤ 9223372036854775807) (hps : ∀ x ∈ n.pieces, x.name.size ≤ 9223372036854775807) (hb : (allEnds n).length ≤ 1048576) :
    Calls Try.prog 44 #[.agg #[.slice u.1.1 n.pieces.length u.1.2, .slice u.2.1 n.joints.length u.2.2]] w
      fun e w' => e = .returned (.agg #[.int .i64 (netFault n).1, .int .i64 (netFault n).2]) ∧ Below w.heap.size w w' := by
  have hm := hr.2.1.2.1
  have hpm := hr.1.1.2.1
  have HRN := Aside0.mk hr
  have HRJ := Aside0.mk hr.2.1
  have HRP := Aside0.mk hr.1.1
  have HS := Aside0.mk hs
  have HPS := Aside0.mk hps
  clear hr hs hps
  obtain ⟨⟨A0, c0⟩, ⟨A1, c1⟩⟩ := u
  obtain ⟨W0, hW0⟩ : ∃ W0 : World, W0 = ((w.alloc (.cells #[.slice A0 n.pieces.length c0, .slice A1 n.joints.length c1] 35)).alloc (.cells #[.int .i64 0, .int .i64 0] 55)).alloc (.map #[] 0) := ⟨_, rfl⟩
  have HN : Aside0 (Bx W0 w.heap.size [.slice A0 n.pieces.length c0, .slice A1 n.joints.length c1]) := ⟨by rw [hW0]; exact ((Bx.new w [.slice A0 n.pieces.length c0, .slice A1 n.joints.length c1] 35).alloc _).alloc _⟩
  have HX : Aside0 (Bx W0 (w.heap.size + 1) [.int .i64 0, .int .i64 0]) := ⟨by
    have := (Bx.new (w.alloc (.cells #[.slice A0 n.pieces.length c0, .slice A1 n.joints.length c1] 35)) [.int .i64 0, .int .i64 0] 55).alloc (.map #[] 0)
    rw [hW0]; simpa using this⟩
  have HM0 : Aside0 (MapOf keyStr .bool W0 (w.heap.size + 1 + 1) []) := ⟨by
    have := MapOf.made keyStr .bool ((w.alloc (.cells #[.slice A0 n.pieces.length c0, .slice A1 n.joints.length c1] 35)).alloc (.cells #[.int .i64 0, .int .i64 0] 55))
    rw [hW0]; simpa using this⟩
  have fb := Aside0.mk (show Below w.heap.size w W0 by rw [hW0]; exact below_three _ _ _ _)
  have HW := Aside0.mk hW0
  have HSZ := Aside0.mk (show W0.heap.size = w.heap.size + 3 by rw [hW0]; simp)
  clear hW0
  by_cases h0 : n.pieces.length = 0
  · have z0 : ((n.pieces.length : Int) == 0) = true := by rw [h0]; rfl
    have HT := Aside0.mk (netFault1 (n := n) (by unfold tooMany; simp [h0]))
    clear h0
    go_enter Try.func44, Try.ntmps44
    go_wp2
    refine bodyPost_ret (v := .agg #[.int .i64 1, .int .i64 0]) (by simp [results, Try.results44, go_sem]) rfl ⟨by rw [HT.out], below_two _ _ _⟩
  have z0 : ((n.pieces.length : Int) == 0) = false := by simpa using h0
  by_cases h1 : 100 < n.pieces.length
  · have HT := Aside0.mk (netFault1 (n := n) (by unfold tooMany; simp [h1]))
    go_enter Try.func44, Try.ntmps44
    go_wp2
    refine bodyPost_ret (v := .agg #[.int .i64 1, .int .i64 0]) (by simp [results, Try.results44, go_sem]) rfl ⟨by rw [HT.out], below_two _ _ _⟩
  by_cases h2 : 120 < n.joints.length
  · have HT := Aside0.mk (netFault1 (n := n) (by unfold tooMany; simp [h2]))
    go_enter Try.func44, Try.ntmps44
    go_wp2
    refine bodyPost_ret (v := .agg #[.int .i64 1, .int .i64 0]) (by simp [results, Try.results44, go_sem]) rfl ⟨by rw [HT.out], below_two _ _ _⟩
  have HT : Aside0 (tooMany n = false) := ⟨by unfold tooMany; simp [h0, h1, h2]⟩
  have hmm := @run_makeMap Try.prog
  go_enter Try.func44, Try.ntmps44
  go_wp2
  rw [← HW.out]
  have t1 : n.pieces.length ≤ 100 := by omega
  have t2 : n.joints.length ≤ 120 := by omega
  clear h0 h1 h2 z0
  go_loopw [39] (fun v39 wr => ∃ (i : Nat) (l : List (ByteArray × Bool)), v39 = .int .i64 i ∧ i ≤ n.pieces.length ∧ Aside0 (∀ k, k < i → badPiece n k = false) ∧ Aside0 (MapOf keyStr .bool wr (w.heap.size + 1 + 1) l) ∧ Aside0 (SetOf l (fun k => (n.pieces.take i).any (fun x => decide (x.name = k)))) ∧ Aside0 (Below w.heap.size w wr) ∧ Aside0 (Bx wr w.heap.size [.slice A0 n.pieces.length c0, .slice A1 n.joints.length c1]) ∧ Aside0 (Bx wr (w.heap.size + 1) [.int .i64 0, .int .i64 0])) (fun v39 _ => n.pieces.length - (intOf v39).toNat)
  case atStart => exact ⟨0, [], rfl, Nat.zero_le _, ⟨fun k hk => by omega⟩, HM0, ⟨SetOf.nil.congr fun x => by simp⟩, fb, HN, HX⟩
  case round =>
    obtain ⟨i, l, rfl, hi, HI, HM, HL, HB, HNr, HXr⟩ := hrel
    have n0 := HNr.out.c 0 _ rfl
    have n1 := HNr.out.c 1 _ rfl
    by_cases hlt : i < n.pieces.length
    · obtain ⟨ad0, e0, y0, y1, y2, y3⟩ := at_Piece HRP.out i hlt
      replace y0 := pw_cell_below HB.out y0
      replace y1 := pw_cell_below HB.out y1
      replace y2 := pw_cell_below HB.out y2
      replace y3 := pw_cell_below HB.out y3
      have hpn := HPS.out _ (getD_mem n.pieces i hlt)
      obtain ⟨p, hp⟩ : ∃ p, p = n.pieces.getD i default := ⟨_, rfl⟩
      rw [← hp] at y0 y1 y2 y3 hpn
      have HP := Aside0.mk hp
      clear hp
      subst e0
      obtain ⟨W1, hW1⟩ : ∃ W1 : World, W1 = wr.alloc (.cells #[.string p.name, .int .i64 p.len, .int .i64 p.speed, .int .i64 p.brake] 78) := ⟨_, rfl⟩
      have HLo : Aside0 (Bx W1 wr.heap.size [.string p.name, .int .i64 p.len, .int .i64 p.speed, .int .i64 p.brake]) := ⟨by rw [hW1]; exact Bx.new wr _ 78⟩
      have HN1 : Aside0 (Bx W1 w.heap.size [.slice (some ad0) n.pieces.length c0, .slice A1 n.joints.length c1]) := ⟨by rw [hW1]; exact HNr.out.alloc _⟩
      have HX1 : Aside0 (Bx W1 (w.heap.size + 1) [.int .i64 0, .int .i64 0]) := ⟨by rw [hW1]; exact HXr.out.alloc _⟩
      have HM1 : Aside0 (MapOf keyStr .bool W1 (w.heap.size + 1 + 1) l) := ⟨by rw [hW1]; exact HM.out.alloc _⟩
      have HB1 : Aside0 (Below w.heap.size w W1) := ⟨by rw [hW1]; exact below_alloc HB.out _⟩
      have HW1 := Aside0.mk hW1
      clear hW1
      cases hpb : pieceB p with
      | false =>
        have HT2 := Aside0.mk (netFault2 HT.out (find_first (p := badPiece n) hlt (by unfold badPiece; rw [← HP.out, hpb]; rfl) HI.out))
        go_wp2_with (go_at_call 124; rw [← HW1.out]; refine (pieceOk_any _ _ hpn).mono ?_; rintro e w3 ⟨rfl, hb3⟩; have HB3 := Aside0.mk (below_more HB1.out hb3); have HX3 := Aside0.mk (HX1.out.below hb3); clear hb3; have x0 := HX3.out.c 0 _ rfl; have x1 := HX3.out.c 1 _ rfl; have xf0 := HX3.out.f 0; have xf1 := HX3.out.f 1; have as1 := HX3.out.lt)
        refine bodyPost_ret (v := .agg #[.int .i64 2, .int .i64 i]) (by simp [results, Try.results44, go_sem, x0, x1, as1]) rfl ⟨by rw [HT2.out], ?_⟩
        repeat (first | (with_reducible exact HB3.out) | (with_reducible refine below_set ?_ (by omega)) | (with_reducible refine below_alloc ?_ _))
      | true =>
        have HPB := Aside0.mk hpb
        cases hd : (n.pieces.take i).any (fun x => decide (x.name = p.name)) with
        | true =>
          have HT2 := Aside0.mk (netFault2 HT.out (find_first (p := badPiece n) hlt (by unfold badPiece; rw [← HP.out, hpb, hd]; rfl) HI.out))
          have HD := Aside0.mk (show (lk l p.name).getD false = true from (HL.out p.name).trans hd)
          go_wp2_with (go_at_call 124; rw [← HW1.out]; refine (pieceOk_any _ _ hpn).mono ?_; rintro e w3 ⟨rfl, hb3⟩; have hget := set_get (HM1.out.below hb3) p.name; rw [HD.out] at hget; have HB3 := Aside0.mk (below_more HB1.out hb3); have HX3 := Aside0.mk (HX1.out.below hb3); have HL3 := Aside0.mk (HLo.out.below hb3); clear hb3; have l0 := HL3.out.c 0 _ rfl; have x0 := HX3.out.c 0 _ rfl; have x1 := HX3.out.c 1 _ rfl; have xf0 := HX3.out.f 0; have xf1 := HX3.out.f 1; have as1 := HX3.out.lt)
          refine bodyPost_ret (v := .agg #[.int .i64 2, .int .i64 i]) (by simp [results, Try.results44, go_sem, x0, x1, as1]) rfl ⟨by rw [HT2.out], ?_⟩
          repeat (first | (with_reducible exact HB3.out) | (with_reducible refine below_set ?_ (by omega)) | (with_reducible refine below_alloc ?_ _))
        | false =>
          have HBP := Aside0.mk (show badPiece n i = false by unfold badPiece; rw [← HP.out, hpb, hd]; rfl)
          have HD := Aside0.mk (show (lk l p.name).getD false = false from (HL.out p.name).trans hd)
          go_wp2_with (go_at_call 124; rw [← HW1.out]; refine (pieceOk_any _ _ hpn).mono ?_; rintro e w3 ⟨rfl, hb3⟩; have HM3 := Aside0.mk (HM1.out.below hb3); have hget := set_get HM3.out p.name; rw [HD.out] at hget; obtain ⟨ob, hput, hM4⟩ := set_put HM3.out p.name; have HM4 := Aside0.mk hM4; clear hM4; have HB3 := Aside0.mk (below_more HB1.out hb3); have HX3 := Aside0.mk (HX1.out.below hb3); have HN3 := Aside0.mk (HN1.out.below hb3); have HL3 := Aside0.mk (HLo.out.below hb3); clear hb3; have l0 := HL3.out.c 0 _ rfl)
          go_roundw
          case rel => exact ⟨i + 1, up l p.name true, by go_num, by omega, ⟨upto_step HI.out HBP.out⟩, HM4, ⟨(HL.out.up p.name).congr (fun x => by rw [any_take hlt, ← HP.out])⟩, ⟨putMap_below HB3.out (by omega)⟩, ⟨HN3.out.put (by omega)⟩, ⟨HX3.out.put (by omega)⟩⟩
          case measure => simp [intOf]; omega
    · have HI2 := Aside0.mk (find_none (p := badPiece n) (n := n.pieces.length) (fun k hk => HI.out k (by omega)))
      go_wp2
      clear n0 n1
      go_loopw [62] (fun v62 wr => ∃ (i : Nat), v62 = .int .i64 i ∧ i ≤ n.joints.length ∧ Aside0 (∀ k, k < i → j3 n (n.joints.getD k default) = false) ∧ Aside0 (Below w.heap.size w wr) ∧ Aside0 (Bx wr w.heap.size [.slice A0 n.pieces.length c0, .slice A1 n.joints.length c1]) ∧ Aside0 (Bx wr (w.heap.size + 1) [.int .i64 0, .int .i64 0])) (fun v62 _ => n.joints.length - (intOf v62).toNat)
      case atStart => exact ⟨0, rfl, Nat.zero_le _, ⟨fun k hk => by omega⟩, HB, HNr, HXr⟩
      case round =>
        clear HI HM HL HB HNr HXr hi hlt
        obtain ⟨i, rfl, hi, HI, HB, HNr, HXr⟩ := hrel
        have n0 := HNr.out.c 0 _ rfl
        have n1 := HNr.out.c 1 _ rfl
        by_cases hlt : i < n.joints.length
        · obtain ⟨ad0, B0, k0, e0, y0, y1, y2, m0, g0⟩ := at_Joint HRJ.out i hlt
          subst e0
          replace y0 := pw_cell_below HB.out y0
          replace y1 := pw_cell_below HB.out y1
          replace y2 := pw_cell_below HB.out y2
          have HG := Aside0.mk g0
          have hgm := g0.2.1
          clear g0 m0
          obtain ⟨j, hj⟩ : ∃ j, j = n.joints.getD i default := ⟨_, rfl⟩
          rw [← hj] at y0 y1 y2 HG hgm
          have HJ := Aside0.mk hj
          clear hj
          obtain ⟨W1, hW1⟩ : ∃ W1 : World, W1 = wr.alloc (.cells #[.int .i64 j.kind, .string j.name, .slice B0 j.ends.length k0] 139) := ⟨_, rfl⟩
          have HLo : Aside0 (Bx W1 wr.heap.size [.int .i64 j.kind, .string j.name, .slice B0 j.ends.length k0]) := ⟨by rw [hW1]; exact Bx.new wr _ 139⟩
          have HN1 : Aside0 (Bx W1 w.heap.size [.slice A0 n.pieces.length c0, .slice (some ad0) n.joints.length c1]) := ⟨by rw [hW1]; exact HNr.out.alloc _⟩
          have HX1 : Aside0 (Bx W1 (w.heap.size + 1) [.int .i64 0, .int .i64 0]) := ⟨by rw [hW1]; exact HXr.out.alloc _⟩
          have HBr : Aside0 (Below w.heap.size w W1) := ⟨by rw [hW1]; exact below_alloc HB.out _⟩
          have HW1 := Aside0.mk hW1
          clear hW1
          have x0 := HXr.out.c 0 _ rfl
          have x1 := HXr.out.c 1 _ rfl
          have xf0 := HXr.out.f 0
          have xf1 := HXr.out.f 1
          have as1 := HXr.out.lt
          by_cases hk1 : j.kind < 1
          · have HT2 := Aside0.mk (netFault3' HT.out HI2.out hlt (by rw [← HJ.out]; exact j3_kind (by omega)) HI.out)
            go_wp2
            refine bodyPost_ret (v := .agg #[.int .i64 3, .int .i64 i]) (by simp [results, Try.results44, go_sem, x0, x1, as1]) rfl ⟨by rw [HT2.out], ?_⟩
            repeat (first | (with_reducible exact HB.out) | (with_reducible refine below_set ?_ (by omega)) | (with_reducible refine below_alloc ?_ _))
          by_cases hk4 : 4 < j.kind
          · have HT2 := Aside0.mk (netFault3' HT.out HI2.out hlt (by rw [← HJ.out]; exact j3_kind (by omega)) HI.out)
            go_wp2
            refine bodyPost_ret (v := .agg #[.int .i64 3, .int .i64 i]) (by simp [results, Try.results44, go_sem, x0, x1, as1]) rfl ⟨by rw [HT2.out], ?_⟩
            repeat (first | (with_reducible exact HB.out) | (with_reducible refine below_set ?_ (by omega)) | (with_reducible refine below_alloc ?_ _))
          have HK := Aside0.mk (show inB j.kind 1 4 = true from inB_true.2 (by omega))
          cases hl : ((j.ends.length : Int) != j.kind) with
          | true =>
            have HT2 := Aside0.mk (netFault3' HT.out HI2.out hlt (by rw [← HJ.out]; unfold j3; rw [hl]; simp) HI.out)
            go_wp2
            refine bodyPost_ret (v := .agg #[.int .i64 3, .int .i64 i]) (by simp [results, Try.results44, go_sem, x0, x1, as1]) rfl ⟨by rw [HT2.out], ?_⟩
            repeat (first | (with_reducible exact HB.out) | (with_reducible refine below_set ?_ (by omega)) | (with_reducible refine below_alloc ?_ _))
          | false =>
            have HLn := Aside0.mk hl
            go_wp2
            rw [← HW1.out]
            clear x0 x1 xf0 xf1 as1 y0 y1 y2 n0 n1 hl hk1 hk4
            go_loopw [88] (fun v88 wq => ∃ q : Nat, v88 = .int .i64 q ∧ q ≤ j.ends.length ∧ Aside0 ((j.ends.take q).any (fun e => !endB n e) = false) ∧ Aside0 (Below W1.heap.size W1 wq)) (fun v88 _ => j.ends.length - (intOf v88).toNat)
            case atStart => exact ⟨0, rfl, Nat.zero_le _, ⟨by simp⟩, ⟨Below.refl _ _⟩⟩
            case round =>
              obtain ⟨q, rfl, hq, HQ, HBq⟩ := hrel
              have HNq := Aside0.mk (HN1.out.below HBq.out)
              have HXq := Aside0.mk (HX1.out.below HBq.out)
              have HBw := Aside0.mk (below_more HBr.out HBq.out)
              have n0 := HNq.out.c 0 _ rfl
              have x0 := HXq.out.c 0 _ rfl
              have x1 := HXq.out.c 1 _ rfl
              have xf0 := HXq.out.f 0
              have xf1 := HXq.out.f 1
              have as0 := HNq.out.lt
              have as1 := HXq.out.lt
              by_cases hqt : q < j.ends.length
              · obtain ⟨ad1, e1, z0, z1⟩ := at_End HG.out q hqt
                subst e1
                replace z0 := pw_cell_below HBw.out z0
                replace z1 := pw_cell_below HBw.out z1
                obtain ⟨p, hp⟩ : ∃ p, p = j.ends.getD q default := ⟨_, rfl⟩
                rw [← hp] at z0 z1
                have HP := Aside0.mk hp
                clear hp
                cases he : endB n p with
                | true =>
                  have HE := Aside0.mk he
                  have hin := he
                  unfold endB at hin
                  simp only [Bool.and_eq_true, inB_true] at hin
                  obtain ⟨⟨g0, g1⟩, g2, g3⟩ := hin
                  have g1' : p.piece < (n.pieces.length : Int) := by omega
                  clear g1 he
                  go_wp2
                  go_roundw
                  case rel => exact ⟨q + 1, by go_num, by omega, ⟨any_step hqt HQ.out (by rw [← HP.out, HE.out]; rfl)⟩, ⟨below_alloc HBq.out _⟩⟩
                  case measure => simp [intOf]; omega
                | false =>
                  have HT2 := Aside0.mk (netFault3' HT.out HI2.out hlt (by rw [← HJ.out]; exact j3_end hqt (by rw [← HP.out, he])) HI.out)
                  have HE := Aside0.mk (show ¬ (0 ≤ p.piece ∧ p.piece < (n.pieces.length : Int) ∧ 0 ≤ p.side ∧ p.side ≤ 1) from fun h => by
                    unfold endB at he
                    rw [inB_true.2 (by omega), inB_true.2 (by omega)] at he
                    cases he)
                  clear he
                  go_wp2
                  all_goals first
                    | (exfalso; have := HE.out; omega)
                    | (refine bodyPost_ret (v := .agg #[.int .i64 3, .int .i64 i]) (by simp [results, Try.results44, go_sem, x0, x1, as1]) rfl ⟨by rw [HT2.out], ?_⟩
                       repeat (first | (with_reducible exact HBw.out) | (with_reducible refine below_set ?_ (by omega)) | (with_reducible refine below_alloc ?_ _)))
              · have HJ3 := Aside0.mk (show j3 n (n.joints.getD i default) = false by
                  rw [← HJ.out]; unfold j3
                  have h6 := HQ.out
                  rw [List.take_of_length_le (by omega)] at h6
                  rw [HK.out, HLn.out, h6]; rfl)
                go_wp2
                go_roundw
                case rel => exact ⟨i + 1, by go_num, by omega, ⟨upto_step HI.out HJ3.out⟩, HBw, HNq, HXq⟩
                case measure => simp [intOf]; omega
        · have HI3 := Aside0.mk (show ∀ k, k < n.joints.length → j3 n (n.joints.getD k default) = false from fun k hk => HI.out k (by omega))
          have as0 := HNr.out.lt
          have as1 := HXr.out.lt
          go_wp2
          obtain ⟨W2, hW2⟩ : ∃ W2 : World, W2 = wr.alloc (.map #[] 0) := ⟨_, rfl⟩
          have HM2 : Aside0 (MapOf keyStr .bool W2 wr.heap.size []) := ⟨by rw [hW2]; exact MapOf.made keyStr .bool wr⟩
          have HN2 : Aside0 (Bx W2 w.heap.size [.slice A0 n.pieces.length c0, .slice A1 n.joints.length c1]) := ⟨by rw [hW2]; exact HNr.out.alloc _⟩
          have HX2 : Aside0 (Bx W2 (w.heap.size + 1) [.int .i64 0, .int .i64 0]) := ⟨by rw [hW2]; exact HXr.out.alloc _⟩
          have HB2 : Aside0 (Below w.heap.size w W2) := ⟨by rw [hW2]; exact below_alloc HB.out _⟩
          rw [← hW2]
          obtain ⟨mb, hmb⟩ : ∃ mb, mb = wr.heap.size := ⟨_, rfl⟩
          have HMB := Aside0.mk (show w.heap.size + 1 < mb by rw [hmb]; exact as1)
          rw [← hmb] at HM2 ⊢
          clear hW2 hmb n0 n1 as0 as1 HI hi hlt HB HNr HXr
          go_loopw [121] (fun v121 wr => ∃ (i : Nat) (l : List (ByteArray × Bool)), v121 = .int .i64 i ∧ i ≤ n.joints.length ∧ Aside0 (∀ k, k < i → j4 n k (n.joints.getD k default) = false) ∧ Aside0 (MapOf keyStr .bool wr mb l) ∧ Aside0 (∀ k : ByteArray, k.toList.isEmpty = false → (lk l k).getD false = (n.joints.take i).any (fun x => decide (x.name = k))) ∧ Aside0 (Below w.heap.size w wr) ∧ Aside0 (Bx wr w.heap.size [.slice A0 n.pieces.length c0, .slice A1 n.joints.length c1]) ∧ Aside0 (Bx wr (w.heap.size + 1) [.int .i64 0, .int .i64 0])) (fun v121 _ => n.joints.length - (intOf v121).toNat)
          case atStart => exact ⟨0, [], rfl, Nat.zero_le _, ⟨fun k hk => by omega⟩, HM2, ⟨fun k hk => by simp [lk]⟩, HB2, HN2, HX2⟩
          case round =>
            obtain ⟨i, l, rfl, hi, HI, HM, HL, HB, HNr, HXr⟩ := hrel
            have x0 := HXr.out.c 0 _ rfl
            have x1 := HXr.out.c 1 _ rfl
            have xf0 := HXr.out.f 0
            have xf1 := HXr.out.f 1
            have as1 := HXr.out.lt
            by_cases hlt : i < n.joints.length
            · obtain ⟨ad0, B0, k0, e0, y0, y1, y2, m0, g0⟩ := at_Joint HRJ.out i hlt
              subst e0
              replace y0 := pw_cell_below HB.out y0
              replace y1 := pw_cell_below HB.out y1
              replace y2 := pw_cell_below HB.out y2
              clear g0 m0
              have hjn := HS.out _ (getD_mem n.joints i hlt)
              obtain ⟨j, hj⟩ : ∃ j, j = n.joints.getD i default := ⟨_, rfl⟩
              rw [← hj] at y0 y1 y2 hjn
              have HJ := Aside0.mk hj
              clear hj
              have HLO := Aside0.mk (Bx.new wr [.int .i64 j.kind, .string j.name, .slice B0 j.ends.length k0] 139)
              have HNw := Aside0.mk (HNr.out.alloc (.cells #[.int .i64 j.kind, .string j.name, .slice B0 j.ends.length k0] 139))
              have HXw := Aside0.mk (HXr.out.alloc (.cells #[.int .i64 j.kind, .string j.name, .slice B0 j.ends.length k0] 139))
              have HMw := Aside0.mk (HM.out.alloc (.cells #[.int .i64 j.kind, .string j.name, .slice B0 j.ends.length k0] 139))
              have HBw := Aside0.mk (below_alloc HB.out (.cells #[.int .i64 j.kind, .string j.name, .slice B0 j.ends.length k0] 139))
              by_cases hk2 : j.kind ≤ 2
              · cases hem : j.name.toList.isEmpty with
                | false =>
                  have HT2 := Aside0.mk (netFault4' HT.out HI2.out HI3.out hlt (by rw [← HJ.out]; unfold j4; rw [if_pos (by omega), hem]; rfl) HI.out)
                  go_wp2
                  refine bodyPost_ret (v := .agg #[.int .i64 4, .int .i64 i]) (by simp [results, Try.results44, go_sem, x0, x1, as1]) rfl ⟨by rw [HT2.out], ?_⟩
                  repeat (first | (with_reducible exact HB.out) | (with_reducible refine below_set ?_ (by omega)) | (with_reducible refine below_alloc ?_ _))
                | true =>
                  have HJ4 := Aside0.mk (show j4 n i (n.joints.getD i default) = false by rw [← HJ.out]; unfold j4; rw [if_pos (by omega), hem]; rfl)
                  have HE := Aside0.mk hem
                  go_wp2
                  go_roundw
                  case rel => exact ⟨i + 1, l, by go_num, by omega, ⟨upto_step HI.out HJ4.out⟩, HMw, ⟨fun k hk => by
                    rw [any_take hlt, ← HJ.out, HL.out k hk]
                    have : decide (j.name = k) = false := decide_eq_false (fun h => by rw [← h, HE.out] at hk; cases hk)
                    rw [this, Bool.or_false]⟩, HBw, HNw, HXw⟩
                  case measure => simp [intOf]; omega
              · cases hnm : nameOk j.name with
                | false =>
                  have HT2 := Aside0.mk (netFault4' HT.out HI2.out HI3.out hlt (by rw [← HJ.out]; unfold j4; rw [if_neg (by omega), hnm]; rfl) HI.out)
                  go_wp2_with (go_at_call 125; refine (named_any _ _ hjn).mono ?_; rintro e w3 ⟨rfl, rfl⟩)
                  refine bodyPost_ret (v := .agg #[.int .i64 4, .int .i64 i]) (by simp [results, Try.results44, go_sem, x0, x1, as1]) rfl ⟨by rw [HT2.out], ?_⟩
                  repeat (first | (with_reducible exact HB.out) | (with_reducible refine below_set ?_ (by omega)) | (with_reducible refine below_alloc ?_ _))
                | true =>
                  have HNE := Aside0.mk (nameOk_ne hnm)
                  have hget := set_get HMw.out j.name
                  rw [HL.out _ HNE.out] at hget
                  cases hd : (n.joints.take i).any (fun x => decide (x.name = j.name)) with
                  | true =>
                    have HT2 := Aside0.mk (netFault4' HT.out HI2.out HI3.out hlt (by rw [← HJ.out]; unfold j4; rw [if_neg (by omega), hd]; simp) HI.out)
                    rw [hd] at hget
                    go_wp2_with (go_at_call 125; refine (named_any _ _ hjn).mono ?_; rintro e w3 ⟨rfl, rfl⟩)
                    refine bodyPost_ret (v := .agg #[.int .i64 4, .int .i64 i]) (by simp [results, Try.results44, go_sem, x0, x1, as1]) rfl ⟨by rw [HT2.out], ?_⟩
                    repeat (first | (with_reducible exact HB.out) | (with_reducible refine below_set ?_ (by omega)) | (with_reducible refine below_alloc ?_ _))
                  | false =>
                    have HJ4 := Aside0.mk (show j4 n i (n.joints.getD i default) = false by rw [← HJ.out]; unfold j4; rw [if_neg (by omega), hnm, hd]; rfl)
                    rw [hd] at hget
                    obtain ⟨ob, hput, hM4⟩ := set_put HMw.out j.name
                    have HM4 := Aside0.mk hM4
                    clear hM4
                    go_wp2_with (go_at_call 125; refine (named_any _ _ hjn).mono ?_; rintro e w3 ⟨rfl, rfl⟩)
                    go_roundw
                    case rel => exact ⟨i + 1, up l j.name true, by go_num, by omega, ⟨upto_step HI.out HJ4.out⟩, HM4, ⟨fun k hk => by
                      rw [any_take hlt, ← HJ.out, lk_up]
                      by_cases e : j.name = k
                      · rw [if_pos e]; simp [e]
                      · rw [if_neg e, HL.out k hk]; simp [e]⟩, ⟨putMap_below HBw.out (by have := HMB.out; omega)⟩, ⟨HNw.out.put (by have := HMB.out; omega)⟩, ⟨HXw.out.put (by have := HMB.out; omega)⟩⟩
                    case measure => simp [intOf]; omega
            · have HJ4 := Aside0.mk (show (List.range n.joints.length).find? (fun i => jointCode n i == 4) = none from find_none fun k hk => jc_not4 (HI3.out k hk) (HI.out k (by omega)))
              have HJ3 := Aside0.mk (show (List.range n.joints.length).find? (fun i => jointCode n i == 3) = none from find_none fun k hk => jc_not3 (HI3.out k hk))
              have n0 := HNr.out.c 0 _ rfl
              have n1 := HNr.out.c 1 _ rfl
              have as0 := HNr.out.lt
              clear x0 x1 xf0 xf1
              go_wp2
              obtain ⟨W4, hW4⟩ : ∃ W4 : World, W4 = wr.alloc (.map #[] 0) := ⟨_, rfl⟩
              have HC4 : Aside0 (MapOf keyEnd (.int .i64) W4 wr.heap.size []) := ⟨by rw [hW4]; exact MapOf.made keyEnd (.int .i64) wr⟩
              have HN4 : Aside0 (Bx W4 w.heap.size [.slice A0 n.pieces.length c0, .slice A1 n.joints.length c1]) := ⟨by rw [hW4]; exact HNr.out.alloc _⟩
              have HX4 : Aside0 (Bx W4 (w.heap.size + 1) [.int .i64 0, .int .i64 0]) := ⟨by rw [hW4]; exact HXr.out.alloc _⟩
              have HB4 : Aside0 (Below w.heap.size w W4) := ⟨by rw [hW4]; exact below_alloc HB.out _⟩
              rw [← hW4]
              obtain ⟨cb, hcb⟩ : ∃ cb, cb = wr.heap.size := ⟨_, rfl⟩
              have HCB := Aside0.mk (show w.heap.size + 1 < cb by rw [hcb]; exact as1)
              rw [← hcb] at HC4 ⊢
              clear hW4 hcb n0 n1 as0 as1 HI hi hlt HB HNr HXr HM HL
              go_loopw [154] (fun v154 wr => ∃ (i : Nat) (l : List (EndT × Int)), v154 = .int .i64 i ∧ i ≤ n.joints.length ∧ Aside0 (MapOf keyEnd (.int .i64) wr cb l) ∧ Aside0 (CountOf l ((n.joints.take i).flatMap (·.ends))) ∧ Aside0 (Below w.heap.size w wr) ∧ Aside0 (Bx wr w.heap.size [.slice A0 n.pieces.length c0, .slice A1 n.joints.length c1]) ∧ Aside0 (Bx wr (w.heap.size + 1) [.int .i64 0, .int .i64 0])) (fun v154 _ => n.joints.length - (intOf v154).toNat)
              case atStart => exact ⟨0, [], rfl, Nat.zero_le _, HC4, ⟨fun e => by simp [lk]⟩, HB4, HN4, HX4⟩
              case round =>
                obtain ⟨i, l, rfl, hi, HM, HL, HB, HNr, HXr⟩ := hrel
                by_cases hlt : i < n.joints.length
                · obtain ⟨ad0, B0, k0, e0, y0, y1, y2, m0, g0⟩ := at_Joint HRJ.out i hlt
                  subst e0
                  replace y0 := pw_cell_below HB.out y0
                  replace y1 := pw_cell_below HB.out y1
                  replace y2 := pw_cell_below HB.out y2
                  have HG := Aside0.mk g0
                  have hgm := g0.2.1
                  clear g0 m0
                  have HS := Aside0.mk (flat_step (·.ends) n.joints i hlt)
                  have HBnd := Aside0.mk (flat_le n.joints i)
                  obtain ⟨j, hj⟩ : ∃ j, j = n.joints.getD i default := ⟨_, rfl⟩
                  rw [← hj] at y0 y1 y2 HG hgm HS
                  have HJ := Aside0.mk hj
                  clear hj
                  have HNw := Aside0.mk (HNr.out.alloc (.cells #[.int .i64 j.kind, .string j.name, .slice B0 j.ends.length k0] 139))
                  have HXw := Aside0.mk (HXr.out.alloc (.cells #[.int .i64 j.kind, .string j.name, .slice B0 j.ends.length k0] 139))
                  have HMw := Aside0.mk (HM.out.alloc (.cells #[.int .i64 j.kind, .string j.name, .slice B0 j.ends.length k0] 139))
                  have HBw := Aside0.mk (below_alloc HB.out (.cells #[.int .i64 j.kind, .string j.name, .slice B0 j.ends.length k0] 139))
                  go_wp2
                  go_loopw [161] (fun v161 wq => ∃ (q : Nat) (l' : List (EndT × Int)), v161 = .int .i64 q ∧ q ≤ j.ends.length ∧ Aside0 (MapOf keyEnd (.int .i64) wq cb l') ∧ Aside0 (CountOf l' ((n.joints.take i).flatMap (·.ends) ++ j.ends.take q)) ∧ Aside0 (Below w.heap.size w wq) ∧ Aside0 (Bx wq w.heap.size [.slice A0 n.pieces.length c0, .slice (some ad0) n.joints.length c1]) ∧ Aside0 (Bx wq (w.heap.size + 1) [.int .i64 0, .int .i64 0])) (fun v161 _ => j.ends.length - (intOf v161).toNat)
                  case atStart => exact ⟨0, l, rfl, Nat.zero_le _, HMw, ⟨by simpa using HL.out⟩, HBw, HNw, HXw⟩
                  case round =>
                    obtain ⟨q, l', rfl, hq, HMq, HLq, HBq, HNq, HXq⟩ := hrel
                    by_cases hqt : q < j.ends.length
                    · obtain ⟨ad1, e1, z0, z1⟩ := at_End HG.out q hqt
                      subst e1
                      replace z0 := pw_cell_below HBq.out z0
                      replace z1 := pw_cell_below HBq.out z1
                      have HT3 := Aside0.mk (take_getD j.ends q hqt)
                      obtain ⟨p, hp⟩ : ∃ p, p = j.ends.getD q default := ⟨_, rfl⟩
                      rw [← hp] at z0 z1 HT3
                      clear hp
                      obtain ⟨c, hc, hc0, hc1⟩ : ∃ c : Int, c = (lk l' p).getD 0 ∧ 0 ≤ c ∧ c ≤ 1048576 := ⟨_, rfl, by rw [HLq.out p]; omega, by
                        rw [HLq.out p]
                        have h1 := HBnd.out
                        have h2 : ((n.joints.take i).flatMap (·.ends) ++ j.ends.take q).count p ≤ ((n.joints.take i).flatMap (·.ends) ++ j.ends.take q).length := List.count_le_length ..
                        have h3 : (j.ends.take q).length ≤ j.ends.length := by rw [List.length_take]; omega
                        have h4 := congrArg List.length HS.out
                        rw [List.length_append] at h2 h4
                        have h5 := flat_le n.joints (i + 1)
                        have h6 : (n.joints.flatMap (·.ends)).length ≤ 1048576 := hb
                        omega⟩
                      obtain ⟨Wl, hWl⟩ : ∃ Wl : World, Wl = wr.alloc (.cells #[.int .i64 p.piece, .int .i64 p.side] 67) := ⟨_, rfl⟩
                      have HLo : Aside0 (Bx Wl wr.heap.size [.int .i64 p.piece, .int .i64 p.side]) := ⟨by rw [hWl]; exact Bx.new wr _ 67⟩
                      have HNl : Aside0 (Bx Wl w.heap.size [.slice A0 n.pieces.length c0, .slice (some ad0) n.joints.length c1]) := ⟨by rw [hWl]; exact HNq.out.alloc _⟩
                      have HXl : Aside0 (Bx Wl (w.heap.size + 1) [.int .i64 0, .int .i64 0]) := ⟨by rw [hWl]; exact HXq.out.alloc _⟩
                      have HMl : Aside0 (MapOf keyEnd (.int .i64) Wl cb l') := ⟨by rw [hWl]; exact HMq.out.alloc _⟩
                      have HBl : Aside0 (Below w.heap.size w Wl) := ⟨by rw [hWl]; exact below_alloc HBq.out _⟩
                      have HWl := Aside0.mk hWl
                      clear hWl
                      obtain ⟨W5, W6, stamp, b1, b2, b3, b4, b5, b6, b7⟩ := bump (HMl.out.move (w1 := Wl.drew) rfl) p
                      rw [← hc] at b1 b2 b3 b4 b5
                      have B5 := Aside0.mk b5
                      have B6 := Aside0.mk b6
                      have B7 := Aside0.mk b7
                      have hsum : IntKind.i64.wrap (c + 1) = c + 1 := wrap64 (by omega) (by omega)
                      have HC := Aside0.mk hc
                      clear b5 b6 b7 hc
                      go_wp2
                      rw [← HWl.out]
                      have l0 := HLo.out.c 0 _ rfl
                      have l1 := HLo.out.c 1 _ rfl
                      clear z0 z1
                      go_region
                      all_goals
                        go_wp2
                        go_roundw
                        case rel => exact ⟨q + 1, up l' p (c + 1), by go_num, by omega, ⟨B5.out⟩, ⟨by
                          have := HLq.out.up p
                          rw [← HC.out, List.append_assoc, ← HT3.out] at this
                          exact this⟩, ⟨B6.out _ _ HBl.out.drew (by have := HCB.out; omega)⟩, ⟨B7.out _ _ (by have := HCB.out; omega) (HNl.out.below (Below.refl _ _).drew)⟩, ⟨B7.out _ _ (by have := HCB.out; omega) (HXl.out.below (Below.refl _ _).drew)⟩⟩
                        case measure => simp [intOf]; omega
                    · go_wp2
                      go_roundw
                      case rel => exact ⟨i + 1, l', by go_num, by omega, HMq, ⟨by
                        have := HLq.out
                        rw [List.take_of_length_le (show j.ends.length ≤ q by omega), ← HS.out] at this
                        exact this⟩, HBq, HNq, HXq⟩
                      case measure => simp [intOf]; omega
                · have HLa := Aside0.mk (show CountOf l (allEnds n) by
                    have := HL.out
                    rw [List.take_of_length_le (by omega)] at this
                    exact this)
                  have n0 := HNr.out.c 0 _ rfl
                  go_wp2
                  go_loopw [176] (fun v176 wr => ∃ i : Nat, v176 = .int .i64 i ∧ i ≤ n.pieces.length ∧ Aside0 (∀ k, k < i → badUse n k = false) ∧ Aside0 (MapOf keyEnd (.int .i64) wr cb l) ∧ Aside0 (Below w.heap.size w wr) ∧ Aside0 (Bx wr (w.heap.size + 1) [.int .i64 0, .int .i64 0])) (fun v176 _ => n.pieces.length - (intOf v176).toNat)
                  case atStart => exact ⟨0, rfl, Nat.zero_le _, ⟨fun k hk => by omega⟩, HM, HB, HXr⟩
                  case round =>
                    clear HB HM HNr HXr n0 hi hlt
                    obtain ⟨i, rfl, hi, HU, HM, HB, HXr⟩ := hrel
                    have x0 := HXr.out.c 0 _ rfl
                    have x1 := HXr.out.c 1 _ rfl
                    have xf0 := HXr.out.f 0
                    have xf1 := HXr.out.f 1
                    have as1 := HXr.out.lt
                    by_cases hlt : i < n.pieces.length
                    · have g0 := count_get HM.out ⟨i, 0⟩
                      have g1 := count_get HM.out ⟨i, 1⟩
                      rw [HLa.out ⟨i, 0⟩] at g0
                      rw [HLa.out ⟨i, 1⟩] at g1
                      simp only at g0 g1
                      by_cases hu0 : uses n ⟨i, 0⟩ = 1
                      · have e0 : ((allEnds n).count ⟨i, 0⟩ : Int) = 1 := by
                          have : (allEnds n).count ⟨i, 0⟩ = 1 := hu0
                          omega
                        rw [e0] at g0
                        by_cases hu1 : uses n ⟨i, 1⟩ = 1
                        · have e1 : ((allEnds n).count ⟨i, 1⟩ : Int) = 1 := by
                            have : (allEnds n).count ⟨i, 1⟩ = 1 := hu1
                            omega
                          rw [e1] at g1
                          have HBU := Aside0.mk (show badUse n i = false by unfold badUse; simp [hu0, hu1])
                          clear hu0 hu1
                          go_wp2
                          go_roundw
                          case rel => exact ⟨i + 1, by go_num, by omega, ⟨upto_step HU.out HBU.out⟩, HM, HB, HXr⟩
                          case measure => simp [intOf]; omega
                        · have HT2 := Aside0.mk (netFault5 HT.out HI2.out HJ3.out HJ4.out (find_first (p := badUse n) hlt (by unfold badUse; simp [hu1]) HU.out))
                          obtain ⟨c, hc⟩ : ∃ c : Int, c = ((allEnds n).count ⟨i, 1⟩ : Int) := ⟨_, rfl⟩
                          rw [← hc] at g1
                          have hne : (c != 1) = true := by
                            have : (allEnds n).count ⟨i, 1⟩ ≠ 1 := hu1
                            simp; omega
                          clear hc hu0 hu1
                          go_wp2
                          refine bodyPost_ret (v := .agg #[.int .i64 5, .int .i64 i]) (by simp [results, Try.results44, go_sem, x0, x1, as1]) rfl ⟨by rw [HT2.out], ?_⟩
                          repeat (first | (with_reducible exact HB.out) | (with_reducible refine below_set ?_ (by omega)) | (with_reducible refine below_alloc ?_ _))
                      · have HT2 := Aside0.mk (netFault5 HT.out HI2.out HJ3.out HJ4.out (find_first (p := badUse n) hlt (by unfold badUse; simp [hu0]) HU.out))
                        obtain ⟨c, hc⟩ : ∃ c : Int, c = ((allEnds n).count ⟨i, 0⟩ : Int) := ⟨_, rfl⟩
                        rw [← hc] at g0
                        have hne : (c != 1) = true := by
                          have : (allEnds n).count ⟨i, 0⟩ ≠ 1 := hu0
                          simp; omega
                        clear hc hu0
                        go_wp2
                        refine bodyPost_ret (v := .agg #[.int .i64 5, .int .i64 i]) (by simp [results, Try.results44, go_sem, x0, x1, as1]) rfl ⟨by rw [HT2.out], ?_⟩
                        repeat (first | (with_reducible exact HB.out) | (with_reducible refine below_set ?_ (by omega)) | (with_reducible refine below_alloc ?_ _))
                    · have HT2 := Aside0.mk (netFault0 HT.out HI2.out HJ3.out HJ4.out (find_none (p := badUse n) (n := n.pieces.length) (fun k hk => HU.out k (by omega))))
                      go_wp2
                      refine bodyPost_ret (v := .agg #[.int .i64 0, .int .i64 0]) (by simp [results, Try.results44, go_sem, x0, x1, as1]) rfl ⟨by rw [HT2.out], ?_⟩
                      repeat (first | (with_reducible exact HB.out) | (with_reducible refine below_set ?_ (by omega)) | (with_reducible refine below_alloc ?_ _))
end Go.Proofs.Ytckcffjnffcjcaa
namespace Go.Proofs.Ytckcffjnffcjcaa
open Go.RowKit Go.Proofs.YtckcffjnffcjcaaW.PrintWords
def netGood (n : NetT) : Bool := (netFault n).1 == 0
theorem netGood_iff {n : NetT} : netGood n = true ↔ netFault n = (0, 0) := by
  unfold netGood
  rw [beq_iff_eq]
  refine ⟨fun h => ?_, fun h => by rw [h]⟩
  unfold netFault at h ⊢
  split at h
  · cases h
  · split at h
    · cases h
    · split at h
      · cases h
      · split at h
        · cases h
        · split at h
          · cases h
          · rename_i h1 _ _ _ _ _ _ _ _
            rw [if_neg h1]
set_option maxRecDepth 100000 in
theorem l1ok_any (n : NetT) (u : (Option Addr × Nat) × (Option Addr × Nat)) (w : World) (hr : RdNet 67 w u n) (hf : NetFits n) :
    Calls Try.prog 128 #[.agg #[.slice u.1.1 n.pieces.length u.1.2, .slice u.2.1 n.joints.length u.2.2]] w
      fun e w' => e = .returned (.bool (netGood n)) ∧ Below w.heap.size w w' := by
  have HR := Aside0.mk hr
  have HF := Aside0.mk hf
  clear hr hf
  obtain ⟨⟨A0, c0⟩, ⟨A1, c1⟩⟩ := u
  go_enter Try.func128, Try.ntmps128
  go_wp2_with (go_at_call 42; refine (specNetOk_any n ((A0, c0), (A1, c1)) _ (HR.out.below (below_alloc (Below.refl _ _) _)) HF.out.jn HF.out.pn HF.out.all).mono ?_; rintro e w3 ⟨rfl, hb3⟩; have HB := Aside0.mk (below_more (below_alloc (Below.refl _ _) _) hb3); clear hb3)
  go_ret
  exact ⟨rfl, below_alloc HB.out _⟩
set_option maxRecDepth 100000 in
theorem good_any (n : NetT) (u : (Option Addr × Nat) × (Option Addr × Nat)) (w : World) (hr : RdNet 67 w u n) (hf : NetFits n) :
    Calls Try.prog 130 #[.agg #[.slice u.1.1 n.pieces.length u.1.2, .slice u.2.1 n.joints.length u.2.2]] w
      fun e w' => e = .returned (.bool (netGood n)) ∧ Below w.heap.size w w' := by
  have HR := Aside0.mk hr
  have HF := Aside0.mk hf
  clear hr hf
  obtain ⟨⟨A0, c0⟩, ⟨A1, c1⟩⟩ := u
  cases hg : netGood n with
  | true =>
    have HN := Aside0.mk (netGood_iff.1 hg)
    clear hg
    go_enter Try.func130, Try.ntmps130
    go_wp2_with (go_at_call 44; refine (implNetOk_any n ((A0, c0), (A1, c1)) _ (HR.out.below (below_alloc (Below.refl _ _) _)) HF.out.jn HF.out.pn HF.out.all).mono ?_; rintro e w3 ⟨rfl, hb3⟩; rw [HN.out]; have HB := Aside0.mk (below_more (below_alloc (Below.refl _ _) _) hb3); clear hb3)
    go_ret
    exact ⟨rfl, HB.out⟩
  | false =>
    have hz : (netFault n).1 ≠ 0 := fun h => by unfold netGood at hg; rw [h] at hg; cases hg
    obtain ⟨⟨f0, f1⟩, hF⟩ : ∃ f, f = netFault n := ⟨_, rfl⟩
    rw [← hF] at hz
    have hz' : f0 ≠ 0 := hz
    clear hz
    have HN := Aside0.mk hF
    clear hg hF
    go_enter Try.func130, Try.ntmps130
    go_wp2_with (go_at_call 44; refine (implNetOk_any n ((A0, c0), (A1, c1)) _ (HR.out.below (below_alloc (Below.refl _ _) _)) HF.out.jn HF.out.pn HF.out.all).mono ?_; rintro e w3 ⟨rfl, hb3⟩; rw [← HN.out]; have HB := Aside0.mk (below_more (below_alloc (Below.refl _ _) _) hb3); clear hb3)
    all_goals
      go_ret
      exact ⟨rfl, HB.out⟩
theorem l1in_is (x a b : Int) (r : Bool) (h : inB x a b = r) (w : World) :
    Calls Try.prog 119 #[.int .i64 x, .int .i64 a, .int .i64 b] w fun e w' => e = .returned (.bool r) ∧ w' = w :=
  (l1in_any x a b w).mono fun e w' h2 => ⟨by rw [h2.1, h], h2.2.symm⟩
def spotB (n : NetT) (s : SpotT) : Bool := inB s.piece 0 ((n.pieces.length : Int) - 1) && (s.way == 1 || s.way == -1) && inB s.at_ 0 (n.pieces.getD s.piece.toNat default).len
set_option maxRecDepth 100000 in
set_option maxHeartbeats 1000000 in
theorem l3spot_any (n : NetT) (u : (Option Addr × Nat) × (Option Addr × Nat)) (s : SpotT) (w : World) (hr : RdNet 67 w u n) :
    Calls Try.prog 129 #[.agg #[.slice u.1.1 n.pieces.length u.1.2, .slice u.2.1 n.joints.length u.2.2], .agg #[.int .i64 s.piece, .int .i64 s.at_, .int .i64 s.way]] w
      fun e w' => e = .returned (.bool (spotB n s)) ∧ Below w.heap.size w w' := by
  have hm := hr.1.1.2.1
  have HR := Aside0.mk hr.1.1
  clear hr
  obtain ⟨⟨A0, c0⟩, ⟨A1, c1⟩⟩ := u
  obtain ⟨sp, sa, sw⟩ := s
  simp only at HR ⊢
  have hsum : IntKind.i64.wrap ((n.pieces.length : Int) - 1) = (n.pieces.length : Int) - 1 := wrap64 (by omega) (by omega)
  cases h1 : inB sp 0 ((n.pieces.length : Int) - 1) with
  | false =>
    have H1 := Aside0.mk h1
    have HB : Aside0 (spotB n ⟨sp, sa, sw⟩ = false) := ⟨by unfold spotB; simp only [h1]; rfl⟩
    clear h1
    go_enter Try.func129, Try.ntmps129
    go_wp2
    go_quiet ((go_at_call 119; exact Calls.quiet_of_same (l1in_is _ _ _ _ H1.out _)))
    go_wp2
    go_ret
    exact ⟨by rw [HB.out]; rfl, below_drewN' (below_two _ _ _) _⟩
  | true =>
    have h1' := inB_true.1 h1
    obtain ⟨i, hi⟩ := Int.eq_ofNat_of_zero_le h1'.1
    subst hi
    have hlt : i < n.pieces.length := by omega
    have H1 := Aside0.mk h1
    by_cases h2 : sw = 1 ∨ sw = -1
    · have HB : Aside0 (spotB n ⟨i, sa, sw⟩ = inB sa 0 (n.pieces.getD i default).len) := ⟨by
        unfold spotB
        simp only [h1, Bool.true_and, Int.toNat_natCast]
        rcases h2 with rfl | rfl <;> rfl⟩
      obtain ⟨ad0, e0, y0, y1, y2, y3⟩ := at_Piece HR.out i hlt
      subst e0
      obtain ⟨p, hp⟩ : ∃ p, p = n.pieces.getD i default := ⟨_, rfl⟩
      rw [← hp] at y0 y1 y2 y3 HB
      clear hp h1 h1' y0 y2 y3
      obtain ⟨W0, hW0⟩ : ∃ W0 : World, W0 = (w.alloc (.cells #[.slice (some ad0) n.pieces.length c0, .slice A1 n.joints.length c1] 35)).alloc (.cells #[.int .i64 i, .int .i64 sa, .int .i64 sw] 38) := ⟨_, rfl⟩
      have n0 : W0.cell? ⟨w.heap.size, 0, none⟩ = some (.slice (some ad0) n.pieces.length c0) := by rw [hW0]; go_simp
      have m0 : W0.cell? ⟨w.heap.size + 1, 0, none⟩ = some (.int .i64 i) := by rw [hW0]; go_simp
      have m1 : W0.cell? ⟨w.heap.size + 1, 1, none⟩ = some (.int .i64 sa) := by rw [hW0]; go_simp
      have m2 : W0.cell? ⟨w.heap.size + 1, 2, none⟩ = some (.int .i64 sw) := by rw [hW0]; go_simp
      have fb := Aside0.mk (show Below w.heap.size w W0 by rw [hW0]; exact below_two _ _ _)
      replace y1 := pw_cell_below fb.out y1
      have HW := Aside0.mk hW0
      clear hW0
      have b0 : (0 : Int) ≤ (i : Int) := by omega
      have b1 : (i : Int) < (n.pieces.length : Int) := by omega
      rcases h2 with rfl | rfl
      · go_enter Try.func129, Try.ntmps129
        go_wp2
        rw [← HW.out]
        go_quiet (first | (go_at_call_of 119 (Value.int .i64 (i : Int)); exact Calls.quiet_of_same (l1in_is _ _ _ _ H1.out _)) | (go_at_call_of 119 (Value.int .i64 sa); exact Calls.quiet_of_same (l1in_is _ _ _ _ rfl _)))
        go_wp2
        go_ret
        exact ⟨by rw [HB.out]; rfl, below_drewN' fb.out _⟩
      · go_enter Try.func129, Try.ntmps129
        go_wp2
        rw [← HW.out]
        go_quiet (first | (go_at_call_of 119 (Value.int .i64 (i : Int)); exact Calls.quiet_of_same (l1in_is _ _ _ _ H1.out _)) | (go_at_call_of 119 (Value.int .i64 sa); exact Calls.quiet_of_same (l1in_is _ _ _ _ rfl _)))
        go_wp2
        go_ret
        exact ⟨by rw [HB.out]; rfl, below_drewN' fb.out _⟩
    · have n1 : (sw == 1) = false := by simpa using fun h => h2 (.inl h)
      have n2 : (sw == -1) = false := by simpa using fun h => h2 (.inr h)
      have HB : Aside0 (spotB n ⟨i, sa, sw⟩ = false) := ⟨by unfold spotB; simp only [n1, n2, Bool.or_false, Bool.and_false, Bool.false_and]⟩
      clear h1 h1' h2
      go_enter Try.func129, Try.ntmps129
      go_wp2
      go_quiet (first | (go_at_call_of 119 (Value.int .i64 (i : Int)); exact Calls.quiet_of_same (l1in_is _ _ _ _ H1.out _)) | (go_at_call_of 119 (Value.int .i64 sa); exact Calls.quiet_of_same (l1in_is _ _ _ _ rfl _)))
      go_wp2
      go_ret
      exact ⟨by rw [HB.out]; rfl, below_drewN' (below_two _ _ _) _⟩
set_option maxRecDepth 100000 in
set_option maxHeartbeats 1000000 in
theorem spotOk_any (n : NetT) (u : (Option Addr × Nat) × (Option Addr × Nat)) (s : SpotT) (w : World) (hr : RdNet 67 w u n) :
    Calls Try.prog 131 #[.agg #[.slice u.1.1 n.pieces.length u.1.2, .slice u.2.1 n.joints.length u.2.2], .agg #[.int .i64 s.piece, .int .i64 s.at_, .int .i64 s.way]] w
      fun e w' => e = .returned (.bool (spotB n s)) ∧ Below w.heap.size w w' := by
  have hm := hr.1.1.2.1
  have HR := Aside0.mk hr.1.1
  clear hr
  obtain ⟨⟨A0, c0⟩, ⟨A1, c1⟩⟩ := u
  obtain ⟨sp, sa, sw⟩ := s
  simp only at HR ⊢
  obtain ⟨W0, hW0⟩ : ∃ W0 : World, W0 = (w.alloc (.cells #[.slice A0 n.pieces.length c0, .slice A1 n.joints.length c1] 35)).alloc (.cells #[.int .i64 sp, .int .i64 sa, .int .i64 sw] 38) := ⟨_, rfl⟩
  have n0 : W0.cell? ⟨w.heap.size, 0, none⟩ = some (.slice A0 n.pieces.length c0) := by rw [hW0]; go_simp
  have m0 : W0.cell? ⟨w.heap.size + 1, 0, none⟩ = some (.int .i64 sp) := by rw [hW0]; go_simp
  have m1 : W0.cell? ⟨w.heap.size + 1, 1, none⟩ = some (.int .i64 sa) := by rw [hW0]; go_simp
  have m2 : W0.cell? ⟨w.heap.size + 1, 2, none⟩ = some (.int .i64 sw) := by rw [hW0]; go_simp
  have fb := Aside0.mk (show Below w.heap.size w W0 by rw [hW0]; exact below_two _ _ _)
  have HW := Aside0.mk hW0
  clear hW0
  by_cases h0 : 0 ≤ sp
  · obtain ⟨i, hi⟩ := Int.eq_ofNat_of_zero_le h0
    subst hi
    clear h0
    have d0 : decide ((0 : Int) ≤ (i : Int)) = true := by simp
    by_cases hlt : i < n.pieces.length
    · have d1 : decide ((i : Int) < (n.pieces.length : Int)) = true := by simpa using hlt
      obtain ⟨ad0, e0, y0, y1, y2, y3⟩ := at_Piece HR.out i hlt
      subst e0
      have h1 : inB (i : Int) 0 ((n.pieces.length : Int) - 1) = true := inB_true.2 (by omega)
      have HB : Aside0 (spotB n ⟨i, sa, sw⟩ = ((sw == 1 || sw == -1) && inB sa 0 (n.pieces.getD i default).len)) := ⟨by
        unfold spotB
        simp only [h1, Bool.true_and, Int.toNat_natCast]⟩
      obtain ⟨p, hp⟩ : ∃ p, p = n.pieces.getD i default := ⟨_, rfl⟩
      rw [← hp] at y0 y1 y2 y3 HB
      clear hp h1 y0 y2 y3
      replace y1 := pw_cell_below fb.out y1
      have b0 : (0 : Int) ≤ (i : Int) := by omega
      have b1 : (i : Int) < (n.pieces.length : Int) := by omega
      by_cases h2 : 0 ≤ sa
      · have d2 : decide ((0 : Int) ≤ sa) = true := by simpa using h2
        by_cases h3 : sa ≤ p.len
        · have d3 : decide (sa ≤ p.len) = true := by simpa using h3
          have HB2 : Aside0 (spotB n ⟨i, sa, sw⟩ = (sw == 1 || sw == -1)) := ⟨by rw [HB.out, inB_true.2 ⟨h2, h3⟩, Bool.and_true]⟩
          clear h2 h3
          cases hw1 : (sw == 1) with
          | true =>
            have HB3 : Aside0 (spotB n ⟨i, sa, sw⟩ = true) := ⟨by rw [HB2.out, hw1]; rfl⟩
            go_enter Try.func131, Try.ntmps131
            go_wp2
            rw [← HW.out]
            go_quiet (fail)
            go_wp2
            go_ret
            exact ⟨by rw [HB3.out]; rfl, below_drewN' fb.out _⟩
          | false =>
            have HB3 : Aside0 (spotB n ⟨i, sa, sw⟩ = (sw == -1)) := ⟨by rw [HB2.out, hw1]; rfl⟩
            go_enter Try.func131, Try.ntmps131
            go_wp2
            rw [← HW.out]
            go_quiet (fail)
            go_wp2
            go_ret
            exact ⟨by rw [HB3.out]; rfl, below_drewN' fb.out _⟩
        · have d3 : decide (sa ≤ p.len) = false := by simpa using h3
          have HB2 : Aside0 (spotB n ⟨i, sa, sw⟩ = false) := ⟨by rw [HB.out, inB_false.2 (fun h => h3 h.2), Bool.and_false]⟩
          clear h2 h3
          go_enter Try.func131, Try.ntmps131
          go_wp2
          rw [← HW.out]
          go_quiet (fail)
          go_wp2
          go_ret
          exact ⟨by rw [HB2.out]; rfl, below_drewN' fb.out _⟩
      · have d2 : decide ((0 : Int) ≤ sa) = false := by simpa using h2
        have HB2 : Aside0 (spotB n ⟨i, sa, sw⟩ = false) := ⟨by rw [HB.out, inB_false.2 (fun h => h2 h.1), Bool.and_false]⟩
        clear h2
        go_enter Try.func131, Try.ntmps131
        go_wp2
        rw [← HW.out]
        go_quiet (fail)
        go_wp2
        go_ret
        exact ⟨by rw [HB2.out]; rfl, below_drewN' fb.out _⟩
    · have d1 : decide ((i : Int) < (n.pieces.length : Int)) = false := by simpa using hlt
      have HB2 : Aside0 (spotB n ⟨i, sa, sw⟩ = false) := ⟨by unfold spotB; rw [inB_false.2 (show ¬ (0 ≤ (i : Int) ∧ (i : Int) ≤ (n.pieces.length : Int) - 1) by omega)]; rfl⟩
      go_enter Try.func131, Try.ntmps131
      go_wp2
      rw [← HW.out]
      go_quiet (fail)
      go_wp2
      go_ret
      exact ⟨by rw [HB2.out]; rfl, below_drewN' fb.out _⟩
  · have d0 : decide ((0 : Int) ≤ sp) = false := by simpa using h0
    have HB2 : Aside0 (spotB n ⟨sp, sa, sw⟩ = false) := ⟨by unfold spotB; rw [inB_false.2 (show ¬ (0 ≤ sp ∧ sp ≤ (n.pieces.length : Int) - 1) by omega)]; rfl⟩
    clear h0
    go_enter Try.func131, Try.ntmps131
    go_wp2
    rw [← HW.out]
    go_quiet (fail)
    go_wp2
    go_ret
    exact ⟨by rw [HB2.out]; rfl, below_drewN' fb.out _⟩
def spotOkB (n : NetT) (s : SpotT) : Bool := netGood n && spotB n s
end Go.Proofs.Ytckcffjnffcjcaa
namespace Go.Proofs.Ytckcffjnffcjcaa
open Go.RowKit Go.Proofs.YtckcffjnffcjcaaW.PrintWords
set_option maxRecDepth 100000 in
theorem specSpotOk_any (n : NetT) (u : (Option Addr × Nat) × (Option Addr × Nat)) (s : SpotT) (w : World) (hr : RdNet 67 w u n) (hf : NetFits n) :
    Calls Try.prog 47 #[.agg #[.slice u.1.1 n.pieces.length u.1.2, .slice u.2.1 n.joints.length u.2.2], .agg #[.int .i64 s.piece, .int .i64 s.at_, .int .i64 s.way]] w
      fun e w' => e = .returned (.bool (spotOkB n s)) ∧ Below w.heap.size w w' := by
  have HR := Aside0.mk hr
  have HF := Aside0.mk hf
  clear hr hf
  obtain ⟨⟨A0, c0⟩, ⟨A1, c1⟩⟩ := u
  obtain ⟨W0, hW0⟩ : ∃ W0 : World, W0 = (w.alloc (.cells #[.slice A0 n.pieces.length c0, .slice A1 n.joints.length c1] 35)).alloc (.cells #[.int .i64 s.piece, .int .i64 s.at_, .int .i64 s.way] 38) := ⟨_, rfl⟩
  have HN : Aside0 (Bx W0 w.heap.size [.slice A0 n.pieces.length c0, .slice A1 n.joints.length c1]) := ⟨by rw [hW0]; exact (Bx.new w [.slice A0 n.pieces.length c0, .slice A1 n.joints.length c1] 35).alloc _⟩
  have HS : Aside0 (Bx W0 (w.heap.size + 1) [.int .i64 s.piece, .int .i64 s.at_, .int .i64 s.way]) := ⟨by
    have := Bx.new (w.alloc (.cells #[.slice A0 n.pieces.length c0, .slice A1 n.joints.length c1] 35)) [.int .i64 s.piece, .int .i64 s.at_, .int .i64 s.way] 38
    rw [hW0]; simpa using this⟩
  have fb := Aside0.mk (show Below w.heap.size w W0 by rw [hW0]; exact below_two _ _ _)
  have HW := Aside0.mk hW0
  clear hW0
  cases hg : netGood n with
  | false =>
    have HG := Aside0.mk (show spotOkB n s = false by unfold spotOkB; rw [hg]; rfl)
    have HG2 := Aside0.mk hg
    clear hg
    go_enter Try.func47, Try.ntmps47
    go_wp2_with (go_at_call 128; rw [← HW.out]; refine (l1ok_any n ((A0, c0), (A1, c1)) _ (HR.out.below fb.out) HF.out).mono ?_; rintro e w3 ⟨rfl, hb3⟩; rw [HG2.out]; have HB := Aside0.mk (below_more fb.out hb3); clear hb3)
    go_ret
    exact ⟨by rw [HG.out]; rfl, HB.out⟩
  | true =>
    have HG := Aside0.mk (show spotOkB n s = spotB n s by unfold spotOkB; rw [hg]; rfl)
    have HG2 := Aside0.mk hg
    clear hg
    go_enter Try.func47, Try.ntmps47
    go_wp2_with (go_at_call 128; rw [← HW.out]; refine (l1ok_any n ((A0, c0), (A1, c1)) _ (HR.out.below fb.out) HF.out).mono ?_; rintro e w3 ⟨rfl, hb3⟩; rw [HG2.out]; have HB := Aside0.mk (below_more fb.out hb3); have HN3 := Aside0.mk (HN.out.below hb3); have HS3 := Aside0.mk (HS.out.below hb3); clear hb3; have n0 := HN3.out.c 0 _ rfl; have n1 := HN3.out.c 1 _ rfl; have m0 := HS3.out.c 0 _ rfl; have m1 := HS3.out.c 1 _ rfl; have m2 := HS3.out.c 2 _ rfl)
    refine (l3spot_any n ((A0, c0), (A1, c1)) s _ (HR.out.below HB.out)).mono ?_
    rintro e w4 ⟨rfl, hb4⟩
    have HB4 := Aside0.mk (below_more HB.out hb4)
    clear hb4
    go_wp2
    go_ret
    exact ⟨by rw [HG.out]; rfl, HB4.out⟩
set_option maxRecDepth 100000 in
theorem implSpotOk_any (n : NetT) (u : (Option Addr × Nat) × (Option Addr × Nat)) (s : SpotT) (w : World) (hr : RdNet 67 w u n) (hf : NetFits n) :
    Calls Try.prog 49 #[.agg #[.slice u.1.1 n.pieces.length u.1.2, .slice u.2.1 n.joints.length u.2.2], .agg #[.int .i64 s.piece, .int .i64 s.at_, .int .i64 s.way]] w
      fun e w' => e = .returned (.bool (spotOkB n s)) ∧ Below w.heap.size w w' := by
  have HR := Aside0.mk hr
  have HF := Aside0.mk hf
  clear hr hf
  obtain ⟨⟨A0, c0⟩, ⟨A1, c1⟩⟩ := u
  obtain ⟨W0, hW0⟩ : ∃ W0 : World, W0 = (w.alloc (.cells #[.slice A0 n.pieces.length c0, .slice A1 n.joints.length c1] 35)).alloc (.cells #[.int .i64 s.piece, .int .i64 s.at_, .int .i64 s.way] 38) := ⟨_, rfl⟩
  have HN : Aside0 (Bx W0 w.heap.size [.slice A0 n.pieces.length c0, .slice A1 n.joints.length c1]) := ⟨by rw [hW0]; exact (Bx.new w [.slice A0 n.pieces.length c0, .slice A1 n.joints.length c1] 35).alloc _⟩
  have HS : Aside0 (Bx W0 (w.heap.size + 1) [.int .i64 s.piece, .int .i64 s.at_, .int .i64 s.way]) := ⟨by
    have := Bx.new (w.alloc (.cells #[.slice A0 n.pieces.length c0, .slice A1 n.joints.length c1] 35)) [.int .i64 s.piece, .int .i64 s.at_, .int .i64 s.way] 38
    rw [hW0]; simpa using this⟩
  have fb := Aside0.mk (show Below w.heap.size w W0 by rw [hW0]; exact below_two _ _ _)
  have HW := Aside0.mk hW0
  clear hW0
  cases hg : netGood n with
  | false =>
    have HG := Aside0.mk (show spotOkB n s = false by unfold spotOkB; rw [hg]; rfl)
    have HG2 := Aside0.mk hg
    clear hg
    go_enter Try.func49, Try.ntmps49
    go_wp2_with (go_at_call 130; rw [← HW.out]; refine (good_any n ((A0, c0), (A1, c1)) _ (HR.out.below fb.out) HF.out).mono ?_; rintro e w3 ⟨rfl, hb3⟩; rw [HG2.out]; have HB := Aside0.mk (below_more fb.out hb3); clear hb3)
    go_ret
    exact ⟨by rw [HG.out]; rfl, HB.out⟩
  | true =>
    have HG := Aside0.mk (show spotOkB n s = spotB n s by unfold spotOkB; rw [hg]; rfl)
    have HG2 := Aside0.mk hg
    clear hg
    go_enter Try.func49, Try.ntmps49
    go_wp2_with (go_at_call 130; rw [← HW.out]; refine (good_any n ((A0, c0), (A1, c1)) _ (HR.out.below fb.out) HF.out).mono ?_; rintro e w3 ⟨rfl, hb3⟩; rw [HG2.out]; have HB := Aside0.mk (below_more fb.out hb3); have HN3 := Aside0.mk (HN.out.below hb3); have HS3 := Aside0.mk (HS.out.below hb3); clear hb3; have n0 := HN3.out.c 0 _ rfl; have n1 := HN3.out.c 1 _ rfl; have m0 := HS3.out.c 0 _ rfl; have m1 := HS3.out.c 1 _ rfl; have m2 := HS3.out.c 2 _ rfl)
    refine (spotOk_any n ((A0, c0), (A1, c1)) s _ (HR.out.below HB.out)).mono ?_
    rintro e w4 ⟨rfl, hb4⟩
    have HB4 := Aside0.mk (below_more HB.out hb4)
    clear hb4
    go_wp2
    go_ret
    exact ⟨by rw [HG.out]; rfl, HB4.out⟩
end Go.Proofs.Ytckcffjnffcjcaa
namespace Go.Proofs.Ytckcffjnffcjcaa
open Go.RowKit Go.Proofs.YtckcffjnffcjcaaW.PrintWords
theorem range_none {p : Nat → Bool} {n : Nat} (h : (List.range n).find? p = none) : ∀ k, k < n → p k = false := fun k hk => by
  have := List.find?_eq_none.1 h k (List.mem_range.2 hk)
  simpa using this
structure Good (n : NetT) : Prop where
  p0 : n.pieces.length ≠ 0
  p1 : n.pieces.length ≤ 100
  j1 : n.joints.length ≤ 120
  pc : ∀ i, i < n.pieces.length → badPiece n i = false
  jc3 : ∀ i, i < n.joints.length → j3 n (n.joints.getD i default) = false
  jc4 : ∀ i, i < n.joints.length → j4 n i (n.joints.getD i default) = false
  us : ∀ i, i < n.pieces.length → badUse n i = false
theorem Good.of {n : NetT} (h : netGood n = true) : Good n := by
  have h0 := netGood_iff.1 h
  unfold netFault at h0
  split at h0
  · cases h0
  · rename_i ht
    split at h0
    · cases h0
    · rename_i _ h2
      split at h0
      · cases h0
      · rename_i _ h3
        split at h0
        · cases h0
        · rename_i _ h4
          split at h0
          · cases h0
          · rename_i _ h5
            unfold tooMany at ht
            simp only [Bool.or_eq_true, beq_iff_eq, decide_eq_true_eq, not_or] at ht
            have g2 := range_none h2
            have g3 := range_none h3
            have g4 := range_none h4
            have g5 := range_none h5
            have k3 : ∀ i, i < n.joints.length → j3 n (n.joints.getD i default) = false := fun i hi => by
              cases hq : j3 n (n.joints.getD i default) with
              | false => rfl
              | true => have := g3 i hi; rw [jc_three hq] at this; cases this
            refine ⟨ht.1.1, by omega, by omega, g2, k3, fun i hi => ?_, g5⟩
            cases hq : j4 n i (n.joints.getD i default) with
            | false => rfl
            | true => have := g4 i hi; rw [jc_four (k3 i hi) hq] at this; cases this
theorem Good.joint {n : NetT} (h : Good n) {j : JointT} (hj : j ∈ n.joints) : 1 ≤ j.kind ∧ j.kind ≤ 4 ∧ (j.ends.length : Int) = j.kind ∧ ∀ e ∈ j.ends, endB n e = true := by
  obtain ⟨i, hi, he⟩ := List.getElem_of_mem hj
  have h3 := h.jc3 i hi
  rw [getD_at _ _ hi, he] at h3
  unfold j3 at h3
  simp only [Bool.or_eq_false_iff, Bool.not_eq_false', bne_eq_false_iff_eq] at h3
  have hk := inB_true.1 h3.1.1
  refine ⟨hk.1, hk.2, h3.1.2, fun e he2 => ?_⟩
  have := List.any_eq_false.1 h3.2 e he2
  simpa using this
theorem Good.piece {n : NetT} (h : Good n) {p : PieceT} (hp : p ∈ n.pieces) : 1 ≤ p.len ∧ p.len ≤ 10000000 ∧ 1 ≤ p.speed ∧ p.speed ≤ 10000 ∧ 1 ≤ p.brake ∧ p.brake ≤ 1000 := by
  obtain ⟨i, hi, he⟩ := List.getElem_of_mem hp
  have h3 := h.pc i hi
  unfold badPiece at h3
  rw [getD_at _ _ hi, he] at h3
  simp only [Bool.or_eq_false_iff, Bool.not_eq_false'] at h3
  have := h3.1
  unfold pieceB at this
  simp only [Bool.and_eq_true] at this
  have a := inB_true.1 this.1.1.2
  have b := inB_true.1 this.1.2
  have c := inB_true.1 this.2
  exact ⟨a.1, a.2, b.1, b.2, c.1, c.2⟩
theorem endB_iff {n : NetT} {e : EndT} : endB n e = true ↔ 0 ≤ e.piece ∧ e.piece < (n.pieces.length : Int) ∧ 0 ≤ e.side ∧ e.side ≤ 1 := by
  unfold endB
  rw [Bool.and_eq_true, inB_true, inB_true]
  omega
theorem Good.use {n : NetT} (h : Good n) {e : EndT} (he : endB n e = true) : uses n e = 1 := by
  have h0 := endB_iff.1 he
  obtain ⟨i, hi⟩ := Int.eq_ofNat_of_zero_le h0.1
  have hu := h.us i (by omega)
  unfold badUse at hu
  simp only [Bool.or_eq_false_iff, decide_eq_false_iff_not, Decidable.not_not] at hu
  obtain ⟨ep, es⟩ := e
  simp only at h0 hi
  subst hi
  have : es = 0 ∨ es = 1 := by omega
  rcases this with rfl | rfl
  · exact hu.1
  · exact hu.2
theorem Good.found {n : NetT} (h : Good n) {e : EndT} (he : endB n e = true) : e ∈ allEnds n := by
  have h1 := h.use he
  unfold uses at h1
  exact List.count_pos_iff.1 (by omega)
end Go.Proofs.Ytckcffjnffcjcaa
namespace Go.Proofs.Ytckcffjnffcjcaa
open Go.RowKit Go.Proofs.YtckcffjnffcjcaaW.PrintWords
def posOf (l : List EndT) (e : EndT) : Option Nat := (List.range l.length).find? (fun q => decide (l.getD q default = e))
def atEnd (n : NetT) (e : EndT) : Int × Int :=
  match (List.range n.joints.length).find? (fun i => (posOf (n.joints.getD i default).ends e).isSome) with
  | some i => (i, ((posOf (n.joints.getD i default).ends e).getD 0 : Nat))
  | none => (-1, -1)
theorem atEnd_some {n : NetT} {e : EndT} {i q : Nat} (h : i < n.joints.length) (hq : posOf (n.joints.getD i default).ends e = some q) (hb : ∀ k, k < i → posOf (n.joints.getD k default).ends e = none) : atEnd n e = ((i : Int), (q : Int)) := by
  unfold atEnd
  rw [find_first (i := i) h (by rw [hq]; rfl) (fun k hk => by rw [hb k hk]; rfl)]
  simp only [hq, Option.getD_some]
theorem atEnd_none {n : NetT} {e : EndT} (hb : ∀ k, k < n.joints.length → posOf (n.joints.getD k default).ends e = none) : atEnd n e = (-1, -1) := by
  unfold atEnd
  rw [find_none (fun k hk => by rw [hb k hk]; rfl)]
theorem posOf_some {l : List EndT} {e : EndT} {q : Nat} (h : q < l.length) (he : l.getD q default = e) (hb : ∀ k, k < q → decide (l.getD k default = e) = false) : posOf l e = some q :=
  find_first h (decide_eq_true he) hb
theorem posOf_none {l : List EndT} {e : EndT} (hb : ∀ k, k < l.length → decide (l.getD k default = e) = false) : posOf l e = none := find_none hb
theorem posOf_is {l : List EndT} {e : EndT} {q : Nat} (h : posOf l e = some q) : q < l.length ∧ l.getD q default = e := by
  unfold posOf at h
  exact ⟨List.mem_range.1 (List.mem_of_find?_eq_some h), by simpa using List.find?_some h⟩
theorem posOf_not {l : List EndT} {e : EndT} (h : posOf l e = none) : e ∉ l := fun hm => by
  obtain ⟨i, hi, he⟩ := List.getElem_of_mem hm
  have := range_none h i hi
  rw [getD_at _ _ hi, he] at this
  simp at this
theorem atEnd_cases (n : NetT) (e : EndT) : (atEnd n e = (-1, -1) ∧ e ∉ allEnds n) ∨ ∃ i q : Nat, atEnd n e = ((i : Int), (q : Int)) ∧ i < n.joints.length ∧ q < (n.joints.getD i default).ends.length ∧ (n.joints.getD i default).ends.getD q default = e := by
  cases h : (List.range n.joints.length).find? (fun i => (posOf (n.joints.getD i default).ends e).isSome) with
  | none =>
    left
    have h1 := range_none h
    refine ⟨atEnd_none fun k hk => by have := h1 k hk; simpa using this, fun hm => ?_⟩
    unfold allEnds at hm
    obtain ⟨j, hj, he⟩ := List.mem_flatMap.1 hm
    obtain ⟨i, hi, hji⟩ := List.getElem_of_mem hj
    have := h1 i hi
    rw [getD_at _ _ hi, hji] at this
    exact posOf_not (by simpa using this) he
  | some i =>
    right
    have hi := List.mem_range.1 (List.mem_of_find?_eq_some h)
    have h2 := List.find?_some h
    obtain ⟨q, hq⟩ := Option.isSome_iff_exists.1 h2
    refine ⟨i, q, ?_, hi, (posOf_is hq).1, (posOf_is hq).2⟩
    unfold atEnd
    rw [h]
    simp only [hq, Option.getD_some]
set_option maxRecDepth 100000 in
theorem l1at_any (n : NetT) (u : (Option Addr × Nat) × (Option Addr × Nat)) (x : EndT) (w : World) (hr : RdNet 67 w u n) :
    Calls Try.prog 133 #[.agg #[.slice u.1.1 n.pieces.length u.1.2, .slice u.2.1 n.joints.length u.2.2], .agg #[.int .i64 x.piece, .int .i64 x.side]] w
      fun e w' => e = .returned (.tuple #[.int .i64 (atEnd n x).1, .int .i64 (atEnd n x).2]) ∧ Below w.heap.size w w' := by
  have hm := hr.2.1.2.1
  have HR := Aside0.mk hr.2.1
  clear hr
  obtain ⟨⟨A0, c0⟩, ⟨A1, c1⟩⟩ := u
  go_enter Try.func133, Try.ntmps133
  go_wp2
  obtain ⟨W0, hW0⟩ : ∃ W0 : World, W0 = (w.alloc (.cells #[.slice A0 n.pieces.length c0, .slice A1 n.joints.length c1] 35)).alloc (.cells #[.int .i64 x.piece, .int .i64 x.side] 67) := ⟨_, rfl⟩
  have f0 : W0.cell? ⟨w.heap.size + 1, 0, none⟩ = some (.int .i64 x.piece) := by rw [hW0]; go_simp
  have f1 : W0.cell? ⟨w.heap.size + 1, 1, none⟩ = some (.int .i64 x.side) := by rw [hW0]; go_simp
  have fs : w.heap.size + 1 < W0.heap.size := by rw [hW0]; simp
  have fb := Aside0.mk (show Below w.heap.size w W0 by rw [hW0]; exact below_two _ _ _)
  rw [← hW0]
  clear hW0
  go_loopw [13] (fun v13 wr => ∃ (i : Nat), v13 = .int .i64 i ∧ i ≤ n.joints.length ∧ Aside0 (∀ k, k < i → posOf (n.joints.getD k default).ends x = none) ∧ Aside0 (Below W0.heap.size W0 wr)) (fun v13 _ => n.joints.length - (intOf v13).toNat)
  case atStart => exact ⟨0, rfl, Nat.zero_le _, ⟨fun k hk => by omega⟩, ⟨Below.refl _ _⟩⟩
  case round =>
    obtain ⟨i, rfl, hi, HT, HB⟩ := hrel
    by_cases hlt : i < n.joints.length
    · obtain ⟨ad0, B0, k0, e0, x0, x1, x2, m0, g0⟩ := at_Joint HR.out i hlt
      subst e0
      have HB2 := Aside0.mk (below_more fb.out HB.out)
      replace x0 := pw_cell_below HB2.out x0
      replace x1 := pw_cell_below HB2.out x1
      replace x2 := pw_cell_below HB2.out x2
      have HG := Aside0.mk g0
      have hgm := g0.2.1
      clear g0 m0
      obtain ⟨j, hj⟩ : ∃ j, j = n.joints.getD i default := ⟨_, rfl⟩
      rw [← hj] at x0 x1 x2 HG hgm
      have HJ := Aside0.mk hj
      clear hj
      go_wp2
      have HB3 := Aside0.mk (below_alloc HB.out (.cells #[.int .i64 j.kind, .string j.name, .slice B0 j.ends.length k0] 139))
      go_loopw [21] (fun v21 wq => ∃ (q : Nat), v21 = .int .i64 q ∧ q ≤ j.ends.length ∧ Aside0 (∀ k, k < q → decide (j.ends.getD k default = x) = false) ∧ Aside0 (Below W0.heap.size W0 wq)) (fun v21 _ => j.ends.length - (intOf v21).toNat)
      case atStart => exact ⟨0, rfl, Nat.zero_le _, ⟨fun k hk => by omega⟩, HB3⟩
      case round =>
        obtain ⟨q, rfl, hq, HQ, HBq⟩ := hrel
        by_cases hqt : q < j.ends.length
        · obtain ⟨ad1, e1, y0, y1⟩ := at_End HG.out q hqt
          subst e1
          have HBw := Aside0.mk (below_more fb.out HBq.out)
          replace y0 := pw_cell_below HBw.out y0
          replace y1 := pw_cell_below HBw.out y1
          have z0 := pw_cell_below HBq.out f0
          have z1 := pw_cell_below HBq.out f1
          have fq := Nat.lt_of_lt_of_le fs HBq.out.size
          obtain ⟨p, hp⟩ : ∃ p, p = j.ends.getD q default := ⟨_, rfl⟩
          rw [← hp] at y0 y1
          have HP := Aside0.mk hp
          clear hp
          by_cases hpx : p = x
          · have HR2 := Aside0.mk (atEnd_some hlt (by rw [← HJ.out]; exact posOf_some hqt (by rw [← HP.out]; exact hpx) HQ.out) HT.out)
            subst hpx
            go_wp2
            all_goals first
              | (exfalso; simp_all; done)
              | (refine bodyPost_ret (v := .tuple #[.int .i64 i, .int .i64 q]) (by simp [results, Try.results133, go_sem]) rfl ⟨by rw [HR2.out], below_alloc HBw.out _⟩)
          · have HE := Aside0.mk (show decide (j.ends.getD q default = x) = false from decide_eq_false (by rw [← HP.out]; exact hpx))
            have hne : ¬ (p.piece = x.piece ∧ p.side = x.side) := fun h => hpx (EndT.ext_iff.1 h)
            clear hpx
            obtain ⟨pp, ps⟩ := p
            simp only at y0 y1 hne
            by_cases h1 : pp = x.piece
            · subst h1
              have hs : ps ≠ x.side := fun h => hne ⟨rfl, h⟩
              have b1 : (ps == x.side) = false := by simpa using hs
              have b2 : (x.side == ps) = false := by simpa using Ne.symm hs
              clear hs hne
              go_wp2
              go_roundw
              case rel => exact ⟨q + 1, by go_num, by omega, ⟨upto_step HQ.out HE.out⟩, ⟨below_alloc HBq.out _⟩⟩
              case measure => simp [intOf]; omega
            · have b1 : (pp == x.piece) = false := by simpa using h1
              have b2 : (x.piece == pp) = false := by simpa using Ne.symm h1
              clear h1 hne
              go_wp2
              go_roundw
              case rel => exact ⟨q + 1, by go_num, by omega, ⟨upto_step HQ.out HE.out⟩, ⟨below_alloc HBq.out _⟩⟩
              case measure => simp [intOf]; omega
        · have HE := Aside0.mk (show posOf (n.joints.getD i default).ends x = none from by rw [← HJ.out]; exact posOf_none (fun k hk => HQ.out k (by omega)))
          go_wp2
          go_roundw
          case rel => exact ⟨i + 1, by go_num, by omega, ⟨upto_step HT.out HE.out⟩, HBq⟩
          case measure => simp [intOf]; omega
    · have HE := Aside0.mk (atEnd_none (n := n) (e := x) (fun k hk => HT.out k (by omega)))
      go_wp2
      refine bodyPost_ret (v := .tuple #[.int .i64 (-1), .int .i64 (-1)]) (by simp [results, Try.results133, go_sem]) rfl ⟨by rw [HE.out], below_more fb.out HB.out⟩
set_option maxRecDepth 100000 in
theorem at_any (n : NetT) (u : (Option Addr × Nat) × (Option Addr × Nat)) (x : EndT) (w : World) (hr : RdNet 67 w u n) :
    Calls Try.prog 134 #[.agg #[.slice u.1.1 n.pieces.length u.1.2, .slice u.2.1 n.joints.length u.2.2], .agg #[.int .i64 x.piece, .int .i64 x.side]] w
      fun e w' => e = .returned (.tuple #[.int .i64 (atEnd n x).1, .int .i64 (atEnd n x).2]) ∧ Below w.heap.size w w' := by
  have hm := hr.2.1.2.1
  have HR := Aside0.mk hr.2.1
  clear hr
  obtain ⟨⟨A0, c0⟩, ⟨A1, c1⟩⟩ := u
  go_enter Try.func134, Try.ntmps134
  go_wp2
  obtain ⟨W0, hW0⟩ : ∃ W0 : World, W0 = (w.alloc (.cells #[.slice A0 n.pieces.length c0, .slice A1 n.joints.length c1] 35)).alloc (.cells #[.int .i64 x.piece, .int .i64 x.side] 67) := ⟨_, rfl⟩
  have f0 : W0.cell? ⟨w.heap.size + 1, 0, none⟩ = some (.int .i64 x.piece) := by rw [hW0]; go_simp
  have f1 : W0.cell? ⟨w.heap.size + 1, 1, none⟩ = some (.int .i64 x.side) := by rw [hW0]; go_simp
  have fs : w.heap.size + 1 < W0.heap.size := by rw [hW0]; simp
  have fb := Aside0.mk (show Below w.heap.size w W0 by rw [hW0]; exact below_two _ _ _)
  rw [← hW0]
  clear hW0
  go_loopw [13] (fun v13 wr => ∃ (i : Nat), v13 = .int .i64 i ∧ i ≤ n.joints.length ∧ Aside0 (∀ k, k < i → posOf (n.joints.getD k default).ends x = none) ∧ Aside0 (Below W0.heap.size W0 wr)) (fun v13 _ => n.joints.length - (intOf v13).toNat)
  case atStart => exact ⟨0, rfl, Nat.zero_le _, ⟨fun k hk => by omega⟩, ⟨Below.refl _ _⟩⟩
  case round =>
    obtain ⟨i, rfl, hi, HT, HB⟩ := hrel
    by_cases hlt : i < n.joints.length
    · obtain ⟨ad0, B0, k0, e0, x0, x1, x2, m0, g0⟩ := at_Joint HR.out i hlt
      subst e0
      have HB2 := Aside0.mk (below_more fb.out HB.out)
      replace x0 := pw_cell_below HB2.out x0
      replace x1 := pw_cell_below HB2.out x1
      replace x2 := pw_cell_below HB2.out x2
      have HG := Aside0.mk g0
      have hgm := g0.2.1
      clear g0 m0
      obtain ⟨j, hj⟩ : ∃ j, j = n.joints.getD i default := ⟨_, rfl⟩
      rw [← hj] at x0 x1 x2 HG hgm
      have HJ := Aside0.mk hj
      clear hj
      go_wp2
      have HB3 := Aside0.mk (below_alloc HB.out (.cells #[.int .i64 j.kind, .string j.name, .slice B0 j.ends.length k0] 139))
      go_loopw [21] (fun v21 wq => ∃ (q : Nat), v21 = .int .i64 q ∧ q ≤ j.ends.length ∧ Aside0 (∀ k, k < q → decide (j.ends.getD k default = x) = false) ∧ Aside0 (Below W0.heap.size W0 wq)) (fun v21 _ => j.ends.length - (intOf v21).toNat)
      case atStart => exact ⟨0, rfl, Nat.zero_le _, ⟨fun k hk => by omega⟩, HB3⟩
      case round =>
        obtain ⟨q, rfl, hq, HQ, HBq⟩ := hrel
        by_cases hqt : q < j.ends.length
        · obtain ⟨ad1, e1, y0, y1⟩ := at_End HG.out q hqt
          subst e1
          have HBw := Aside0.mk (below_more fb.out HBq.out)
          replace y0 := pw_cell_below HBw.out y0
          replace y1 := pw_cell_below HBw.out y1
          have z0 := pw_cell_below HBq.out f0
          have z1 := pw_cell_below HBq.out f1
          have fq := Nat.lt_of_lt_of_le fs HBq.out.size
          obtain ⟨p, hp⟩ : ∃ p, p = j.ends.getD q default := ⟨_, rfl⟩
          rw [← hp] at y0 y1
          have HP := Aside0.mk hp
          clear hp
          by_cases hpx : p = x
          · have HR2 := Aside0.mk (atEnd_some hlt (by rw [← HJ.out]; exact posOf_some hqt (by rw [← HP.out]; exact hpx) HQ.out) HT.out)
            subst hpx
            go_wp2
            all_goals first
              | (exfalso; simp_all; done)
              | (refine bodyPost_ret (v := .tuple #[.int .i64 i, .int .i64 q]) (by simp [results, Try.results134, go_sem]) rfl ⟨by rw [HR2.out], below_alloc HBw.out _⟩)
          · have HE := Aside0.mk (show decide (j.ends.getD q default = x) = false from decide_eq_false (by rw [← HP.out]; exact hpx))
            have hne : ¬ (p.piece = x.piece ∧ p.side = x.side) := fun h => hpx (EndT.ext_iff.1 h)
            clear hpx
            obtain ⟨pp, ps⟩ := p
            simp only at y0 y1 hne
            by_cases h1 : pp = x.piece
            · subst h1
              have hs : ps ≠ x.side := fun h => hne ⟨rfl, h⟩
              have b1 : (ps == x.side) = false := by simpa using hs
              have b2 : (x.side == ps) = false := by simpa using Ne.symm hs
              clear hs hne
              go_wp2
              go_roundw
              case rel => exact ⟨q + 1, by go_num, by omega, ⟨upto_step HQ.out HE.out⟩, ⟨below_alloc HBq.out _⟩⟩
              case measure => simp [intOf]; omega
            · have b1 : (pp == x.piece) = false := by simpa using h1
              have b2 : (x.piece == pp) = false := by simpa using Ne.symm h1
              clear h1 hne
              go_wp2
              go_roundw
              case rel => exact ⟨q + 1, by go_num, by omega, ⟨upto_step HQ.out HE.out⟩, ⟨below_alloc HBq.out _⟩⟩
              case measure => simp [intOf]; omega
        · have HE := Aside0.mk (show posOf (n.joints.getD i default).ends x = none from by rw [← HJ.out]; exact posOf_none (fun k hk => HQ.out k (by omega)))
          go_wp2
          go_roundw
          case rel => exact ⟨i + 1, by go_num, by omega, ⟨upto_step HT.out HE.out⟩, HBq⟩
          case measure => simp [intOf]; omega
    · have HE := Aside0.mk (atEnd_none (n := n) (e := x) (fun k hk => HT.out k (by omega)))
      go_wp2
      refine bodyPost_ret (v := .tuple #[.int .i64 (-1), .int .i64 (-1)]) (by simp [results, Try.results134, go_sem]) rfl ⟨by rw [HE.out], below_more fb.out HB.out⟩
end Go.Proofs.Ytckcffjnffcjcaa
namespace Go.Proofs.Ytckcffjnffcjcaa
open Go.RowKit Go.Proofs.YtckcffjnffcjcaaW.PrintWords
def turnS (s : SpotT) : SpotT := ⟨s.piece, s.at_, -s.way⟩
def turnV (n : NetT) (s : SpotT) : SpotT := if spotOkB n s = true then turnS s else ⟨0, 0, 0⟩
theorem spotB_way {n : NetT} {s : SpotT} (h : spotB n s = true) : s.way = 1 ∨ s.way = -1 := by
  unfold spotB at h
  simp only [Bool.and_eq_true, Bool.or_eq_true, beq_iff_eq] at h
  exact h.1.2
set_option maxRecDepth 100000 in
theorem specTurn_any (n : NetT) (u : (Option Addr × Nat) × (Option Addr × Nat)) (s : SpotT) (w : World) (hr : RdNet 67 w u n) (hf : NetFits n) :
    Calls Try.prog 53 #[.agg #[.slice u.1.1 n.pieces.length u.1.2, .slice u.2.1 n.joints.length u.2.2], .agg #[.int .i64 s.piece, .int .i64 s.at_, .int .i64 s.way]] w
      fun e w' => e = .returned (.agg #[.int .i64 (turnV n s).piece, .int .i64 (turnV n s).at_, .int .i64 (turnV n s).way]) ∧ Below w.heap.size w w' := by
  have HR := Aside0.mk hr
  have HF := Aside0.mk hf
  clear hr hf
  obtain ⟨⟨A0, c0⟩, ⟨A1, c1⟩⟩ := u
  obtain ⟨W0, hW0⟩ : ∃ W0 : World, W0 = ((w.alloc (.cells #[.slice A0 n.pieces.length c0, .slice A1 n.joints.length c1] 35)).alloc (.cells #[.int .i64 s.piece, .int .i64 s.at_, .int .i64 s.way] 38)).alloc (.cells #[.int .i64 0, .int .i64 0, .int .i64 0] 38) := ⟨_, rfl⟩
  have HN : Aside0 (Bx W0 w.heap.size [.slice A0 n.pieces.length c0, .slice A1 n.joints.length c1]) := ⟨by rw [hW0]; exact ((Bx.new w [.slice A0 n.pieces.length c0, .slice A1 n.joints.length c1] 35).alloc _).alloc _⟩
  have HS : Aside0 (Bx W0 (w.heap.size + 1) [.int .i64 s.piece, .int .i64 s.at_, .int .i64 s.way]) := ⟨by
    have := (Bx.new (w.alloc (.cells #[.slice A0 n.pieces.length c0, .slice A1 n.joints.length c1] 35)) [.int .i64 s.piece, .int .i64 s.at_, .int .i64 s.way] 38).alloc (.cells #[.int .i64 0, .int .i64 0, .int .i64 0] 38)
    rw [hW0]; simpa using this⟩
  have HX : Aside0 (Bx W0 (w.heap.size + 2) [.int .i64 0, .int .i64 0, .int .i64 0]) := ⟨by
    have := Bx.new ((w.alloc (.cells #[.slice A0 n.pieces.length c0, .slice A1 n.joints.length c1] 35)).alloc (.cells #[.int .i64 s.piece, .int .i64 s.at_, .int .i64 s.way] 38)) [.int .i64 0, .int .i64 0, .int .i64 0] 38
    rw [hW0]; simpa using this⟩
  have fb := Aside0.mk (show Below w.heap.size w W0 by rw [hW0]; exact below_three _ _ _ _)
  have HW := Aside0.mk hW0
  clear hW0
  cases hg : spotOkB n s with
  | false =>
    have HG := Aside0.mk (show turnV n s = ⟨0, 0, 0⟩ from if_neg (by rw [hg]; simp))
    have HG2 := Aside0.mk hg
    clear hg
    go_enter Try.func53, Try.ntmps53
    go_wp2_with (go_at_call 47; rw [← HW.out]; refine (specSpotOk_any n ((A0, c0), (A1, c1)) s _ (HR.out.below fb.out) HF.out).mono ?_; rintro e w3 ⟨rfl, hb3⟩; rw [HG2.out]; have HX3 := Aside0.mk (HX.out.below hb3); have B3 := Aside0.mk (below_more fb.out hb3); clear hb3; have x0 := HX3.out.c 0 _ rfl; have x1 := HX3.out.c 1 _ rfl; have x2 := HX3.out.c 2 _ rfl; have y0 := HX3.out.f 0; have y1 := HX3.out.f 1; have y2 := HX3.out.f 2; have asz := HX3.out.lt)
    refine bodyPost_ret (v := .agg #[.int .i64 0, .int .i64 0, .int .i64 0]) (by simp [results, Try.results53, go_sem, x0, x1, x2, asz]) rfl ⟨by rw [HG.out], ?_⟩
    repeat (first | (with_reducible exact B3.out) | (with_reducible refine below_set ?_ (by omega)) | (with_reducible refine below_alloc ?_ _))
  | true =>
    have hw : s.way = 1 ∨ s.way = -1 := spotB_way (n := n) (by unfold spotOkB at hg; simp only [Bool.and_eq_true] at hg; exact hg.2)
    have HG := Aside0.mk (show turnV n s = ⟨s.piece, s.at_, -s.way⟩ from if_pos hg)
    have HG2 := Aside0.mk hg
    have hneg : IntKind.i64.wrap (-s.way) = -s.way := wrap64 (by omega) (by omega)
    clear hg
    go_enter Try.func53, Try.ntmps53
    go_wp2_with (go_at_call 47; rw [← HW.out]; refine (specSpotOk_any n ((A0, c0), (A1, c1)) s _ (HR.out.below fb.out) HF.out).mono ?_; rintro e w3 ⟨rfl, hb3⟩; rw [HG2.out]; have HX3 := Aside0.mk (HX.out.below hb3); have HS3 := Aside0.mk (HS.out.below hb3); have B3 := Aside0.mk (below_more fb.out hb3); clear hb3; have x0 := HX3.out.c 0 _ rfl; have x1 := HX3.out.c 1 _ rfl; have x2 := HX3.out.c 2 _ rfl; have y0 := HX3.out.f 0; have y1 := HX3.out.f 1; have y2 := HX3.out.f 2; have asz := HX3.out.lt; have m0 := HS3.out.c 0 _ rfl; have m1 := HS3.out.c 1 _ rfl; have m2 := HS3.out.c 2 _ rfl; have k0 := HS3.out.f 0; have k1 := HS3.out.f 1; have k2 := HS3.out.f 2; have as1 := HS3.out.lt)
    refine bodyPost_ret (v := .agg #[.int .i64 s.piece, .int .i64 s.at_, .int .i64 (-s.way)]) (by simp [results, Try.results53, go_sem, x0, x1, x2, asz]) rfl ⟨by rw [HG.out], ?_⟩
    repeat (first | (with_reducible exact B3.out) | (with_reducible refine below_set ?_ (by omega)) | (with_reducible refine below_alloc ?_ _))
set_option maxRecDepth 100000 in
theorem implTurn_any (n : NetT) (u : (Option Addr × Nat) × (Option Addr × Nat)) (s : SpotT) (w : World) (hr : RdNet 67 w u n) (hf : NetFits n) :
    Calls Try.prog 54 #[.agg #[.slice u.1.1 n.pieces.length u.1.2, .slice u.2.1 n.joints.length u.2.2], .agg #[.int .i64 s.piece, .int .i64 s.at_, .int .i64 s.way]] w
      fun e w' => e = .returned (.agg #[.int .i64 (turnV n s).piece, .int .i64 (turnV n s).at_, .int .i64 (turnV n s).way]) ∧ Below w.heap.size w w' := by
  have HR := Aside0.mk hr
  have HF := Aside0.mk hf
  clear hr hf
  obtain ⟨⟨A0, c0⟩, ⟨A1, c1⟩⟩ := u
  obtain ⟨W0, hW0⟩ : ∃ W0 : World, W0 = ((w.alloc (.cells #[.slice A0 n.pieces.length c0, .slice A1 n.joints.length c1] 35)).alloc (.cells #[.int .i64 s.piece, .int .i64 s.at_, .int .i64 s.way] 38)).alloc (.cells #[.int .i64 0, .int .i64 0, .int .i64 0] 38) := ⟨_, rfl⟩
  have HN : Aside0 (Bx W0 w.heap.size [.slice A0 n.pieces.length c0, .slice A1 n.joints.length c1]) := ⟨by rw [hW0]; exact ((Bx.new w [.slice A0 n.pieces.length c0, .slice A1 n.joints.length c1] 35).alloc _).alloc _⟩
  have HS : Aside0 (Bx W0 (w.heap.size + 1) [.int .i64 s.piece, .int .i64 s.at_, .int .i64 s.way]) := ⟨by
    have := (Bx.new (w.alloc (.cells #[.slice A0 n.pieces.length c0, .slice A1 n.joints.length c1] 35)) [.int .i64 s.piece, .int .i64 s.at_, .int .i64 s.way] 38).alloc (.cells #[.int .i64 0, .int .i64 0, .int .i64 0] 38)
    rw [hW0]; simpa using this⟩
  have HX : Aside0 (Bx W0 (w.heap.size + 2) [.int .i64 0, .int .i64 0, .int .i64 0]) := ⟨by
    have := Bx.new ((w.alloc (.cells #[.slice A0 n.pieces.length c0, .slice A1 n.joints.length c1] 35)).alloc (.cells #[.int .i64 s.piece, .int .i64 s.at_, .int .i64 s.way] 38)) [.int .i64 0, .int .i64 0, .int .i64 0] 38
    rw [hW0]; simpa using this⟩
  have fb := Aside0.mk (show Below w.heap.size w W0 by rw [hW0]; exact below_three _ _ _ _)
  have HW := Aside0.mk hW0
  clear hW0
  cases hg : spotOkB n s with
  | false =>
    have HG := Aside0.mk (show turnV n s = ⟨0, 0, 0⟩ from if_neg (by rw [hg]; simp))
    have HG2 := Aside0.mk hg
    clear hg
    go_enter Try.func54, Try.ntmps54
    go_wp2_with (go_at_call 49; rw [← HW.out]; refine (implSpotOk_any n ((A0, c0), (A1, c1)) s _ (HR.out.below fb.out) HF.out).mono ?_; rintro e w3 ⟨rfl, hb3⟩; rw [HG2.out]; have HX3 := Aside0.mk (HX.out.below hb3); have B3 := Aside0.mk (below_more fb.out hb3); clear hb3; have x0 := HX3.out.c 0 _ rfl; have x1 := HX3.out.c 1 _ rfl; have x2 := HX3.out.c 2 _ rfl; have y0 := HX3.out.f 0; have y1 := HX3.out.f 1; have y2 := HX3.out.f 2; have asz := HX3.out.lt)
    refine bodyPost_ret (v := .agg #[.int .i64 0, .int .i64 0, .int .i64 0]) (by simp [results, Try.results54, go_sem, x0, x1, x2, asz]) rfl ⟨by rw [HG.out], ?_⟩
    repeat (first | (with_reducible exact B3.out) | (with_reducible refine below_set ?_ (by omega)) | (with_reducible refine below_alloc ?_ _))
  | true =>
    have hw : s.way = 1 ∨ s.way = -1 := spotB_way (n := n) (by unfold spotOkB at hg; simp only [Bool.and_eq_true] at hg; exact hg.2)
    have HG := Aside0.mk (show turnV n s = ⟨s.piece, s.at_, -s.way⟩ from if_pos hg)
    have HG2 := Aside0.mk hg
    have hneg : IntKind.i64.wrap (-s.way) = -s.way := wrap64 (by omega) (by omega)
    clear hg
    go_enter Try.func54, Try.ntmps54
    go_wp2_with (go_at_call 49; rw [← HW.out]; refine (implSpotOk_any n ((A0, c0), (A1, c1)) s _ (HR.out.below fb.out) HF.out).mono ?_; rintro e w3 ⟨rfl, hb3⟩; rw [HG2.out]; have HX3 := Aside0.mk (HX.out.below hb3); have HS3 := Aside0.mk (HS.out.below hb3); have B3 := Aside0.mk (below_more fb.out hb3); clear hb3; have x0 := HX3.out.c 0 _ rfl; have x1 := HX3.out.c 1 _ rfl; have x2 := HX3.out.c 2 _ rfl; have y0 := HX3.out.f 0; have y1 := HX3.out.f 1; have y2 := HX3.out.f 2; have asz := HX3.out.lt; have m0 := HS3.out.c 0 _ rfl; have m1 := HS3.out.c 1 _ rfl; have m2 := HS3.out.c 2 _ rfl; have k0 := HS3.out.f 0; have k1 := HS3.out.f 1; have k2 := HS3.out.f 2; have as1 := HS3.out.lt)
    refine bodyPost_ret (v := .agg #[.int .i64 s.piece, .int .i64 s.at_, .int .i64 (-s.way)]) (by simp [results, Try.results54, go_sem, x0, x1, x2, asz]) rfl ⟨by rw [HG.out], ?_⟩
    repeat (first | (with_reducible exact B3.out) | (with_reducible refine below_set ?_ (by omega)) | (with_reducible refine below_alloc ?_ _))
end Go.Proofs.Ytckcffjnffcjcaa
namespace Go.Proofs.Ytckcffjnffcjcaa
def cross4 (k : Nat) : Nat := if k = 0 then 1 else if k = 1 then 0 else if k = 2 then 3 else 2
def acrossJ (j : JointT) (k : Nat) : List EndT :=
  if j.kind = 2 then [j.ends.getD (1 - k) default]
  else if j.kind = 3 then (if k = 0 then [j.ends.getD 1 default, j.ends.getD 2 default] else [j.ends.getD 0 default])
  else if j.kind = 4 then [j.ends.getD (cross4 k) default]
  else []
def howJ (j : JointT) (k : Nat) : List Int :=
  if j.kind = 2 then [0] else if j.kind = 3 then (if k = 0 then [1, 2] else [(k : Int)]) else if j.kind = 4 then [0] else []
def iOf (n : NetT) (e : EndT) : Nat := (atEnd n e).1.toNat
def jOf (n : NetT) (e : EndT) : JointT := n.joints.getD (iOf n e) default
def kOf (n : NetT) (e : EndT) : Nat := (atEnd n e).2.toNat
def acrossE (n : NetT) (e : EndT) : List EndT := acrossJ (jOf n e) (kOf n e)
structure AtIs (n : NetT) (e : EndT) (i q : Nat) : Prop where
  eq : atEnd n e = ((i : Int), (q : Int))
  hi : i < n.joints.length
  hq : q < (n.joints.getD i default).ends.length
  he : (n.joints.getD i default).ends.getD q default = e
theorem AtIs.i {n : NetT} {e : EndT} {i q : Nat} (h : AtIs n e i q) : iOf n e = i := by unfold iOf; rw [h.eq]; rfl
theorem AtIs.k {n : NetT} {e : EndT} {i q : Nat} (h : AtIs n e i q) : kOf n e = q := by unfold kOf; rw [h.eq]; rfl
theorem AtIs.j {n : NetT} {e : EndT} {i q : Nat} (h : AtIs n e i q) : jOf n e = n.joints.getD i default := by unfold jOf; rw [h.i]
theorem Good.at_ {n : NetT} (h : Good n) {e : EndT} (he : endB n e = true) : ∃ i q, AtIs n e i q := by
  rcases atEnd_cases n e with ⟨_, h2⟩ | ⟨i, q, h1, h2, h3, h4⟩
  · exact absurd (h.found he) h2
  · exact ⟨i, q, h1, h2, h3, h4⟩
theorem Good.kindAt {n : NetT} (h : Good n) {i : Nat} (hi : i < n.joints.length) :
    1 ≤ (n.joints.getD i default).kind ∧ (n.joints.getD i default).kind ≤ 4 ∧ (((n.joints.getD i default).ends.length : Int) = (n.joints.getD i default).kind) ∧ ∀ q, q < (n.joints.getD i default).ends.length → endB n ((n.joints.getD i default).ends.getD q default) = true := by
  have := h.joint (getD_mem n.joints i hi)
  exact ⟨this.1, this.2.1, this.2.2.1, fun q hq => this.2.2.2 _ (getD_mem _ q hq)⟩
theorem Good.nodup {n : NetT} (h : Good n) : (allEnds n).Nodup := by
  rw [List.nodup_iff_count]
  intro e
  by_cases he : e ∈ allEnds n
  · unfold allEnds at he
    obtain ⟨j, hj, hm⟩ := List.mem_flatMap.1 he
    have := h.use ((h.joint hj).2.2.2 e hm)
    unfold uses at this
    omega
  · rw [List.count_eq_zero.2 he]; omega
theorem Good.place {n : NetT} (h : Good n) {i q : Nat} (hi : i < n.joints.length) (hq : q < (n.joints.getD i default).ends.length) : AtIs n ((n.joints.getD i default).ends.getD q default) i q := by
  have hb := (h.kindAt hi).2.2.2 q hq
  obtain ⟨i', q', h'⟩ := h.at_ hb
  have hn := h.nodup
  unfold allEnds at hn
  have hp := List.pairwise_flatMap.1 hn
  have hj : n.joints[i].ends = (n.joints.getD i default).ends := by rw [getD_at _ _ hi]
  have hj' : (n.joints[i']'h'.hi).ends = (n.joints.getD i' default).ends := by rw [getD_at _ _ h'.hi]
  have m1 : (n.joints.getD i default).ends.getD q default ∈ n.joints[i].ends := by rw [hj]; exact getD_mem _ q hq
  have m2 : (n.joints.getD i default).ends.getD q default ∈ (n.joints[i']'h'.hi).ends := by
    rw [hj']
    have := getD_mem _ q' h'.hq
    rwa [h'.he] at this
  have hii : i' = i := by
    rcases Nat.lt_trichotomy i' i with hlt | heq | hgt
    · exact absurd rfl (List.pairwise_iff_getElem.1 hp.2 i' i h'.hi hi hlt _ m2 _ m1)
    · exact heq
    · exact absurd rfl (List.pairwise_iff_getElem.1 hp.2 i i' hi h'.hi hgt _ m1 _ m2)
  clear hj hj' m1 m2
  subst hii
  have hqq : q' = q := by
    have h1 := hp.1 _ (getD_mem n.joints i' hi)
    have e1 := h'.he
    have hq' := h'.hq
    rw [getD_at _ _ hq', getD_at _ _ hq] at e1
    rcases Nat.lt_trichotomy q' q with hlt | heq | hgt
    · exact absurd e1 (List.pairwise_iff_getElem.1 h1 q' q hq' hq hlt)
    · exact heq
    · exact absurd e1.symm (List.pairwise_iff_getElem.1 h1 q q' hq hq' hgt)
  subst hqq
  exact h'
theorem cross4_lt {k : Nat} (h : k < 4) : cross4 k < 4 := by unfold cross4; split <;> (try split) <;> (try split) <;> omega
theorem cross4_twice {k : Nat} (h : k < 4) : cross4 (cross4 k) = k := by
  have : k = 0 ∨ k = 1 ∨ k = 2 ∨ k = 3 := by omega
  rcases this with rfl | rfl | rfl | rfl <;> rfl
theorem Good.across {n : NetT} (h : Good n) {e x : EndT} (he : endB n e = true) (hx : x ∈ acrossE n e) : endB n x = true ∧ iOf n x = iOf n e ∧ e ∈ acrossE n x := by
  obtain ⟨i, q, ha⟩ := h.at_ he
  obtain ⟨k1, k2, k3, k4⟩ := h.kindAt ha.hi
  have hq := ha.hq
  have hee := ha.he
  unfold acrossE at hx
  rw [ha.j, ha.k] at hx
  have key : ∀ q', q' < (n.joints.getD i default).ends.length → x = (n.joints.getD i default).ends.getD q' default → e ∈ acrossJ (n.joints.getD i default) q' → endB n x = true ∧ iOf n x = iOf n e ∧ e ∈ acrossE n x := by
    intro q' hq' hxq hm
    have hp := h.place ha.hi hq'
    rw [hxq]
    refine ⟨k4 q' hq', by rw [hp.i, ha.i], ?_⟩
    unfold acrossE
    rw [hp.j, hp.k]
    exact hm
  unfold acrossJ at hx
  split at hx
  · rename_i hk
    rw [hk] at k3
    have : x = (n.joints.getD i default).ends.getD (1 - q) default := by simpa using hx
    refine key (1 - q) (by omega) this ?_
    unfold acrossJ
    rw [if_pos hk, show 1 - (1 - q) = q by omega, hee]
    simp
  · split at hx
    · rename_i hk2 hk
      rw [hk] at k3
      split at hx
      · rename_i hq0
        subst hq0
        simp only [List.mem_cons, List.not_mem_nil, or_false] at hx
        rcases hx with hx | hx
        · refine key 1 (by omega) hx ?_
          unfold acrossJ
          rw [if_neg hk2, if_pos hk, if_neg (by omega), hee]; simp
        · refine key 2 (by omega) hx ?_
          unfold acrossJ
          rw [if_neg hk2, if_pos hk, if_neg (by omega), hee]; simp
      · rename_i hq0
        have : x = (n.joints.getD i default).ends.getD 0 default := by simpa using hx
        refine key 0 (by omega) this ?_
        unfold acrossJ
        rw [if_neg hk2, if_pos hk, if_pos rfl]
        have : q = 1 ∨ q = 2 := by omega
        rcases this with rfl | rfl
        · rw [hee]; simp
        · rw [hee]; simp
    · split at hx
      · rename_i hk2 hk3 hk
        rw [hk] at k3
        have : x = (n.joints.getD i default).ends.getD (cross4 q) default := by simpa using hx
        refine key (cross4 q) (by have := cross4_lt (k := q) (by omega); omega) this ?_
        unfold acrossJ
        rw [if_neg hk2, if_neg hk3, if_pos hk, cross4_twice (by omega), hee]; simp
      · simp at hx
def lenP (n : NetT) (p : Int) : Int := (n.pieces.getD p.toNat default).len
def headE (s : SpotT) : EndT := ⟨s.piece, if s.way = 1 then 1 else 0⟩
def roomS (n : NetT) (s : SpotT) : Int := if s.way = 1 then lenP n s.piece - s.at_ else s.at_
def enterS (n : NetT) (e : EndT) : SpotT := if e.side = 0 then ⟨e.piece, 0, 1⟩ else ⟨e.piece, lenP n e.piece, -1⟩
def moveS (s : SpotT) (r : Int) : SpotT := ⟨s.piece, s.at_ + r * s.way, s.way⟩
theorem spotB_iff {n : NetT} {s : SpotT} : spotB n s = true ↔ 0 ≤ s.piece ∧ s.piece < (n.pieces.length : Int) ∧ (s.way = 1 ∨ s.way = -1) ∧ 0 ≤ s.at_ ∧ s.at_ ≤ lenP n s.piece := by
  unfold spotB lenP
  simp only [Bool.and_eq_true, Bool.or_eq_true, beq_iff_eq, inB_true]
  omega
theorem Good.len {n : NetT} (h : Good n) {p : Int} (h0 : 0 ≤ p) (h1 : p < (n.pieces.length : Int)) : 1 ≤ lenP n p ∧ lenP n p ≤ 10000000 := by
  obtain ⟨i, rfl⟩ := Int.eq_ofNat_of_zero_le h0
  have := h.piece (getD_mem n.pieces i (by omega))
  unfold lenP
  rw [Int.toNat_natCast]
  exact ⟨this.1, this.2.1⟩
theorem headE_ok {n : NetT} {s : SpotT} (h : spotB n s = true) : endB n (headE s) = true := by
  have := spotB_iff.1 h
  rw [endB_iff]
  unfold headE
  refine ⟨this.1, this.2.1, ?_, ?_⟩ <;> (simp only; split <;> omega)
theorem enterS_ok {n : NetT} (hg : Good n) {e : EndT} (h : endB n e = true) : spotB n (enterS n e) = true := by
  have := endB_iff.1 h
  have hl := hg.len this.1 this.2.1
  rw [spotB_iff]
  unfold enterS
  split
  · exact ⟨this.1, this.2.1, .inl rfl, Int.le_refl _, by show (0 : Int) ≤ lenP n e.piece; omega⟩
  · exact ⟨this.1, this.2.1, .inr rfl, by show (0 : Int) ≤ lenP n e.piece; omega, Int.le_refl _⟩
theorem enterS_room {n : NetT} (hg : Good n) {e : EndT} (h : endB n e = true) : roomS n (enterS n e) = lenP n e.piece := by
  unfold roomS enterS
  split <;> simp
theorem enterS_piece (n : NetT) (e : EndT) : (enterS n e).piece = e.piece := by unfold enterS; split <;> rfl
theorem roomS_bd {n : NetT} {s : SpotT} (hg : Good n) (h : spotB n s = true) : 0 ≤ roomS n s ∧ roomS n s ≤ 10000000 := by
  have := spotB_iff.1 h
  have hl := hg.len this.1 this.2.1
  unfold roomS
  split <;> omega
theorem way_cases {n : NetT} {s : SpotT} (h : spotB n s = true) : s.way = 1 ∨ s.way = -1 := (spotB_iff.1 h).2.2.1
theorem moveS_ok {n : NetT} {s : SpotT} (h : spotB n s = true) {r : Int} (h0 : 0 ≤ r) (h1 : r ≤ roomS n s) : spotB n (moveS s r) = true := by
  have := spotB_iff.1 h
  rw [spotB_iff]
  unfold roomS at h1
  unfold moveS
  simp only
  rcases this.2.2.1 with hw | hw <;> rw [hw] at h1 ⊢ <;> simp at h1 ⊢ <;> omega
theorem moveS_room {n : NetT} {s : SpotT} (h : spotB n s = true) (r : Int) : roomS n (moveS s r) = roomS n s - r := by
  have := spotB_iff.1 h
  unfold roomS moveS
  simp only
  rcases this.2.2.1 with hw | hw <;> rw [hw] <;> simp <;> omega
theorem moveS_zero (s : SpotT) : moveS s 0 = s := by unfold moveS; simp
theorem moveS_add (s : SpotT) (a b : Int) : moveS (moveS s a) b = moveS s (a + b) := by
  unfold moveS; simp only [SpotT.mk.injEq, true_and, and_true]; rw [Int.add_mul]; omega
theorem moveS_head (s : SpotT) (r : Int) : headE (moveS s r) = headE s := rfl
def overL (n : NetT) (lies : List Int) (e : EndT) : Int × EndT :=
  if (jOf n e).kind = 1 then (1, e)
  else if (jOf n e).kind = 3 then
    if lies.getD (iOf n e) 0 = 0 then (2, e)
    else if kOf n e = 0 then (0, (jOf n e).ends.getD (lies.getD (iOf n e) 0).toNat default)
    else if (kOf n e : Int) ≠ lies.getD (iOf n e) 0 then (3, e)
    else (0, (jOf n e).ends.getD 0 default)
  else (0, (acrossE n e).getD 0 default)
structure DrvT where
  code : Int
  far : Int
  joint : Int
  spot : SpotT
  parts : List PartT
def partOf (s : SpotT) (r : Int) : PartT := ⟨s.piece, min s.at_ (s.at_ + r * s.way), max s.at_ (s.at_ + r * s.way)⟩
def partsOf (s : SpotT) (r : Int) : List PartT := if 0 < r then [partOf s r] else []
def legOf (n : NetT) (s : SpotT) (left : Int) : Int := min (roomS n s) left
def stopAt (n : NetT) (lies : List Int) (s : SpotT) (left : Int) : Option (Int × Int) :=
  if left - legOf n s left = 0 then some (0, -1)
  else if (overL n lies (headE s)).1 ≠ 0 then some ((overL n lies (headE s)).1, (atEnd n (headE s)).1)
  else none
def drv (n : NetT) (lies : List Int) : Nat → SpotT → Int → DrvT
  | 0, s, left => match stopAt n lies s left with
    | some (c, j) => ⟨c, legOf n s left, j, moveS s (legOf n s left), partsOf s (legOf n s left)⟩
    | none => ⟨5, legOf n s left, (atEnd n (headE s)).1, moveS s (legOf n s left), partsOf s (legOf n s left)⟩
  | k + 1, s, left => match stopAt n lies s left with
    | some (c, j) => ⟨c, legOf n s left, j, moveS s (legOf n s left), partsOf s (legOf n s left)⟩
    | none =>
      let d := drv n lies k (enterS n (overL n lies (headE s)).2) (left - legOf n s left)
      ⟨d.code, legOf n s left + d.far, d.joint, d.spot, partsOf s (legOf n s left) ++ d.parts⟩
theorem drv_stop {n : NetT} {lies : List Int} {s : SpotT} {left c j : Int} (h : stopAt n lies s left = some (c, j)) (k : Nat) :
    drv n lies k s left = ⟨c, legOf n s left, j, moveS s (legOf n s left), partsOf s (legOf n s left)⟩ := by
  cases k <;> simp only [drv, h]
theorem drv_full {n : NetT} {lies : List Int} {s : SpotT} {left : Int} (h : stopAt n lies s left = none) :
    drv n lies 0 s left = ⟨5, legOf n s left, (atEnd n (headE s)).1, moveS s (legOf n s left), partsOf s (legOf n s left)⟩ := by
  simp only [drv, h]
theorem drv_on {n : NetT} {lies : List Int} {s : SpotT} {left : Int} (h : stopAt n lies s left = none) (k : Nat) :
    drv n lies (k + 1) s left = ⟨(drv n lies k (enterS n (overL n lies (headE s)).2) (left - legOf n s left)).code, legOf n s left + (drv n lies k (enterS n (overL n lies (headE s)).2) (left - legOf n s left)).far, (drv n lies k (enterS n (overL n lies (headE s)).2) (left - legOf n s left)).joint, (drv n lies k (enterS n (overL n lies (headE s)).2) (left - legOf n s left)).spot, partsOf s (legOf n s left) ++ (drv n lies k (enterS n (overL n lies (headE s)).2) (left - legOf n s left)).parts⟩ := by
  simp only [drv, h]
def liesB (n : NetT) (lies : List Int) : Bool := decide (lies.length = n.joints.length) && (List.range lies.length).all (fun i => inB (lies.getD i 0) 0 2 && (lies.getD i 0 == 0 || (n.joints.getD i default).kind == 3))
theorem liesB_iff {n : NetT} {lies : List Int} : liesB n lies = true ↔ lies.length = n.joints.length ∧ ∀ i, i < lies.length → 0 ≤ lies.getD i 0 ∧ lies.getD i 0 ≤ 2 ∧ (lies.getD i 0 = 0 ∨ (n.joints.getD i default).kind = 3) := by
  unfold liesB
  simp only [Bool.and_eq_true, decide_eq_true_eq, List.all_eq_true, List.mem_range, Bool.or_eq_true, beq_iff_eq, inB_true]
  refine and_congr Iff.rfl (forall_congr' fun i => imp_congr Iff.rfl ?_)
  omega
theorem Good.over {n : NetT} (h : Good n) {lies : List Int} (hl : liesB n lies = true) {e : EndT} (he : endB n e = true) (hc : (overL n lies e).1 = 0) : (overL n lies e).2 ∈ acrossE n e := by
  obtain ⟨i, q, ha⟩ := h.at_ he
  obtain ⟨k1, k2, k3, k4⟩ := h.kindAt ha.hi
  have hq := ha.hq
  have hll := liesB_iff.1 hl
  have hli := hll.2 i (by rw [hll.1]; exact ha.hi)
  unfold overL at hc ⊢
  unfold acrossE
  rw [ha.j, ha.i, ha.k] at hc ⊢
  split at hc
  · cases hc
  · rename_i n1
    rw [if_neg n1]
    split at hc
    · rename_i n3
      rw [if_pos n3]
      split at hc
      · cases hc
      · rename_i hz
        rw [if_neg hz]
        unfold acrossJ
        rw [if_neg (by omega), if_pos n3]
        split at hc
        · rename_i hq0
          rw [if_pos hq0, if_pos hq0]
          have : lies.getD i 0 = 1 ∨ lies.getD i 0 = 2 := by omega
          rcases this with e1 | e1 <;> rw [e1] <;> simp
        · rename_i hq0
          rw [if_neg hq0]
          split at hc
          · cases hc
          · rename_i hne
            rw [if_neg hne, if_neg hq0]
            simp
    · rename_i n3
      rw [if_neg n3]
      unfold acrossJ
      have : (n.joints.getD i default).kind = 2 ∨ (n.joints.getD i default).kind = 4 := by omega
      rcases this with e1 | e1
      · rw [if_pos e1]; simp
      · rw [if_neg (by omega), if_neg (by omega), if_pos e1]; simp
end Go.Proofs.Ytckcffjnffcjcaa
