/- The two maps of the program's Reach in the world, and its closure that looks. No conditions. -/
import Derived.Test.YtckcffjnffcjcaaRchG
import Derived.Test.YtckcffjnffcjcaaDr1
set_option linter.unusedVariables false
set_option linter.unusedSimpArgs false
namespace Go.Proofs.Ytckcffjnffcjcaa
open Go.RowKit Go.Proofs.YtckcffjnffcjcaaW.PrintWords
/-- How many are still to come, read out of the world. -/
theorem Iter.meas {P : Program} {κ ν : Type} {K : KeyEnc P κ} {V : ν → Value} {w : World} {b r : Nat} {l left : List (κ × ν)} (h : Iter K V w b r l left) : ∃ es clock, w.heap[b]? = some (.map es clock) ∧ (leftOf es (w.iterSeen r)).size = left.length := by
  obtain ⟨hm, es, clock, since, c0, seen, h1, h2, h3, h4, h5, h6, h7, hleft⟩ := h
  refine ⟨es, clock, h1, ?_⟩
  have e : w.iterSeen r = seen := by unfold World.iterSeen; rw [h3]
  rw [e, hleft]
  have hl : es.toList.length = l.length := by have := congrArg List.length h2; simpa using this
  unfold leftOf
  rw [← Array.length_toList, Array.toList_filter, List.length_map]
  have : ∀ (l : List (κ × ν)) (es : List MapEntry), es.length = l.length → (es.filter (fun e => !seen.contains e.born)).length = ((l.zip es).filter (fun p => !seen.contains p.2.born)).length := by
    intro l
    induction l with
    | nil => intro es h; rw [List.length_eq_zero_iff.1 h]; rfl
    | cons a l ih =>
      intro es h
      cases es with
      | nil => simp at h
      | cons e es =>
        have := ih es (by simpa using h)
        rw [List.zip_cons_cons, List.filter_cons, List.filter_cons]
        split <;> simp_all
  exact this l es.toList hl
/-- What a call leaves that changes one of the two maps. -/
def KeepM (w w' : World) (mt mo : Nat) : Prop := ∃ W1 b o, w' = putMap W1 b o ∧ (b = mt ∨ b = mo) ∧ Below w.heap.size w W1
section
variable {w w' w0 : World} {mt mo : Nat}
theorem KeepM.block (h : KeepM w w' mt mo) {k : Nat} (hk : k < w.heap.size) (h1 : k ≠ mt) (h2 : k ≠ mo) : w'.heap[k]? = w.heap[k]? := by
  obtain ⟨W1, b, o, rfl, hb, hB⟩ := h
  rw [putMap_other W1 b o (by rcases hb with rfl | rfl <;> assumption)]
  exact hB.block k hk
theorem KeepM.size (h : KeepM w w' mt mo) : w.heap.size ≤ w'.heap.size := by
  obtain ⟨W1, b, o, rfl, hb, hB⟩ := h
  simpa [putMap] using hB.size
theorem KeepM.below {B : Nat} (h : KeepM w w' mt mo) (h0 : Below B w0 w) (h1 : B ≤ mt) (h2 : B ≤ mo) (h3 : B ≤ w.heap.size) : Below B w0 w' := by
  obtain ⟨W1, b, o, rfl, hb, hB⟩ := h
  exact putMap_below (h0.trans ⟨hB.os, hB.tape, hB.output, hB.size, fun k hk => hB.block k (Nat.lt_of_lt_of_le hk h3)⟩) (by rcases hb with rfl | rfl <;> assumption)
theorem KeepM.bx (h : KeepM w w' mt mo) {k : Nat} {vs : List Value} (hx : Bx w k vs) (h1 : k ≠ mt) (h2 : k ≠ mo) : Bx w' k vs := by
  obtain ⟨W1, b, o, rfl, hb, hB⟩ := h
  exact (hx.below hB).put (by rcases hb with rfl | rfl <;> assumption)
theorem KeepM.iter (h : KeepM w w' mt mo) {P : Program} {κ ν : Type} {K : KeyEnc P κ} {V : ν → Value} {b r : Nat} {l left : List (κ × ν)} (hi : Iter K V w b r l left) (h1 : b ≠ mt) (h2 : b ≠ mo) (h3 : r ≠ mt) (h4 : r ≠ mo) : Iter K V w' b r l left :=
  hi.move (h.block hi.map.lt h1 h2) (h.block hi.ltr h3 h4)
theorem KeepM.row (h : KeepM w w' mt mo) {α : Type} {d : Kd α} {e base : Nat} {v : Value} {xs : List α} {ok : Nat → Prop} (hr : d.R e w base ok v xs) (h1 : mt < base) (h2 : mo < base) : d.R e w' base ok v xs :=
  Kd.R_mono (Kd.R_step (Kd.R_bound hr) (fun k hk hl => h.block hl (by have := hk.2.1; omega) (by have := hk.2.1; omega))) (fun _ hk => hk.1)
end
/-- The two maps: their variables' boxes and the maps themselves. -/
structure RM (W : World) (b7 b8 mt mo : Nat) (out : List SpotT) (O : List ItemT) : Prop where
  t : Bx W b7 [.map (some mt)]
  o : Bx W b8 [.map (some mo)]
  mT : MapOf keySpot Value.bool W mt (out.map (fun x => (x, true)))
  mO : MapOf keyGo Value.bool W mo (O.map (fun x => (x, true)))
  ne : b7 ≠ mt ∧ b7 ≠ mo ∧ b8 ≠ mt ∧ b8 ≠ mo ∧ mt ≠ mo
section
variable {W W1 : World} {b7 b8 mt mo : Nat} {out : List SpotT} {O : List ItemT}
theorem RM.below (h : RM W b7 b8 mt mo out O) (hb : Below W.heap.size W W1) : RM W1 b7 b8 mt mo out O := ⟨h.t.below hb, h.o.below hb, h.mT.below hb, h.mO.below hb, h.ne⟩
theorem RM.told (h : RM W b7 b8 mt mo out O) (y : SpotT) : ∃ o, (Instr.mapUpdate 189 (.map (some mt)) (.agg #[.int .i64 y.piece, .int .i64 y.at_, .int .i64 y.way]) (.bool true)).run Try.prog W = .ok () (putMap W mt o) ∧ RM (putMap W mt o) b7 b8 mt mo (addR out y) O := by
  obtain ⟨o, h1, h2⟩ := h.mT.update (t := 189) (e := 4) Try.underlying189 y true
  rw [up_set] at h2
  exact ⟨o, h1, h.t.put h.ne.1, h.o.put h.ne.2.2.1, h2, h.mO.put (Ne.symm h.ne.2.2.2.2), h.ne⟩
theorem RM.open_ (h : RM W b7 b8 mt mo out O) (y : ItemT) : ∃ o, (Instr.mapUpdate 190 (.map (some mo)) (.agg #[.int .i64 y.1.piece, .int .i64 y.1.at_, .int .i64 y.1.way, .int .i64 y.2]) (.bool true)).run Try.prog W = .ok () (putMap W mo o) ∧ RM (putMap W mo o) b7 b8 mt mo out (addR O y) := by
  obtain ⟨o, h1, h2⟩ := h.mO.update (t := 190) (e := 4) Try.underlying190 y true
  rw [up_set] at h2
  exact ⟨o, h1, h.t.put h.ne.2.1, h.o.put h.ne.2.2.2.1, h.mT.put h.ne.2.2.2.2, h2, h.ne⟩
end
set_option maxRecDepth 100000 in
set_option maxHeartbeats 8000000 in
theorem look_any (n : NetT) (u : (Option Addr × Nat) × (Option Addr × Nat)) (x : ItemT) (F : Int) (b3 b7 b8 mt mo : Nat) (out : List SpotT) (O : List ItemT) (w : World) (hr : RdNet 67 w u n) (hg : Good n) (hx : spotB n x.1 = true) (hF : 0 ≤ F - x.2 ∧ F - x.2 ≤ 1000000)
    (hn : Bx w b3 [.slice u.1.1 n.pieces.length u.1.2, .slice u.2.1 n.joints.length u.2.2]) (hm : RM w b7 b8 mt mo out O) :
    Calls Try.prog 162 #[.agg #[.int .i64 x.1.piece, .int .i64 x.1.at_, .int .i64 x.1.way], .int .i64 (F - x.2), .pointer (some ⟨b3, 0, none⟩), .pointer (some ⟨b7, 0, none⟩), .pointer (some ⟨b8, 0, none⟩)] w
      fun e w' => e = .returned (.tuple #[]) ∧ RM w' b7 b8 mt mo (lookG n F (out, O) x).1 (lookG n F (out, O) x).2 ∧ KeepM w w' mt mo := by
  obtain ⟨⟨A0, c0⟩, ⟨A1, c1⟩⟩ := u
  have HR := Aside0.mk hr
  have HG := Aside0.mk hg
  have HN := Aside0.mk (show Bx w b3 [.slice A0 n.pieces.length c0, .slice A1 n.joints.length c1] from hn)
  have HM := Aside0.mk hm
  clear hr hg hn hm
  obtain ⟨⟨sp, sa, sw⟩, sf⟩ := x
  simp only at hx hF
  obtain ⟨lf, hlf⟩ : ∃ l, l = F - sf := ⟨_, rfl⟩
  simp only
  rw [← hlf] at hF
  rw [← hlf]
  have HF := Aside0.mk hF
  have HLF := Aside0.mk hlf
  have hxb := spotB_iff.1 hx
  have hlen := HG.out.len hxb.1 hxb.2.1
  have hrm := roomS_bd HG.out hx
  simp only at hxb hlen
  have HXB := Aside0.mk hxb
  have HLN := Aside0.mk hlen
  obtain ⟨rm, hrm1⟩ : ∃ r, r = roomS n ⟨sp, sa, sw⟩ := ⟨_, rfl⟩
  rw [← hrm1] at hrm
  have HRM := Aside0.mk hrm1
  have HRB := Aside0.mk hrm
  obtain ⟨W0, hW0⟩ : ∃ W0, W0 = w.alloc (.cells #[.int .i64 sp, .int .i64 sa, .int .i64 sw] 38) := ⟨_, rfl⟩
  have fb : Aside0 (Below w.heap.size w W0) := ⟨by rw [hW0]; exact below_alloc (Below.refl _ _) _⟩
  have S0 : Aside0 (Bx W0 w.heap.size [.int .i64 sp, .int .i64 sa, .int .i64 sw]) := ⟨by rw [hW0]; exact Bx.new w _ 38⟩
  have N0 := Aside0.mk (HN.out.below fb.out)
  have HW := Aside0.mk hW0
  clear hx hF hlf hxb hlen hrm hrm1 hW0
  have n0 := N0.out.c 0 _ rfl; have n1 := N0.out.c 1 _ rfl
  have s0 := S0.out.c 0 _ rfl; have s1 := S0.out.c 1 _ rfl; have s2 := S0.out.c 2 _ rfl
  go_enter Try.func162, Try.ntmps162
  go_upto_region 1 with (fail)
  rw [← HW.out]
  go_wp2_with fail
  (with_reducible refine Calls.mono (room_any n ((A0, c0), (A1, c1)) ⟨sp, sa, sw⟩ _ (HR.out.below fb.out) (by have := HXB.out; simp only; omega) (by have := HXB.out; simp only; omega) (by have := HXB.out; simp only; omega) (by have := HXB.out; simp only; omega) (by have := HLN.out; simp only; omega)) ?_)
  rintro e w1 ⟨rfl, b1⟩
  rw [← HRM.out]
  have S1 := Aside0.mk (S0.out.below b1)
  have B1 := Aside0.mk (below_more fb.out b1)
  clear n0 n1 s0 s1 s2 b1
  obtain ⟨⟨hp, hs⟩, hh⟩ : ∃ e, e = headE ⟨sp, sa, sw⟩ := ⟨_, rfl⟩
  have HHV : Aside0 ((Value.agg #[.int .i64 (headE ⟨sp, sa, sw⟩).piece, .int .i64 (headE ⟨sp, sa, sw⟩).side]) = (Value.agg #[.int .i64 hp, .int .i64 hs])) := ⟨by rw [← hh]⟩
  rw [HHV.out]
  clear hh
  obtain ⟨W2, hW2⟩ : ∃ W2, W2 = w1.alloc (.cells #[.int .i64 hp, .int .i64 hs] 67) := ⟨_, rfl⟩
  have b2 : Below w1.heap.size w1 W2 := by rw [hW2]; exact below_alloc (Below.refl _ _) _
  have S2 := Aside0.mk (S1.out.below b2)
  have B2 := Aside0.mk (below_more B1.out b2)
  have HW2 := Aside0.mk hW2
  clear hW2 b2
  by_cases hle : lf ≤ rm
  · obtain ⟨mv, hmv⟩ : ∃ m, m = lf * sw := ⟨_, rfl⟩
    have hb : 0 ≤ lf ∧ lf ≤ 1000000 := HF.out
    have hmb : -1000000 ≤ mv ∧ mv ≤ 1000000 := by
      rcases HXB.out.2.2.1 with h | h <;> (rw [h] at hmv; omega)
    have hab : 0 ≤ sa ∧ sa ≤ 10000000 := by have h1 := HXB.out; have h2 := HLN.out; omega
    have hw1 : IntKind.i64.wrap (lf * sw) = mv := by rw [← hmv]; exact wrap64 (by omega) (by omega)
    obtain ⟨na, hna⟩ : ∃ m, m = sa + mv := ⟨_, rfl⟩
    have hw2 : IntKind.i64.wrap (sa + mv) = na := by rw [hna]; exact wrap64 (by omega) (by omega)
    have HV : Aside0 (lookG n F (out, O) (⟨sp, sa, sw⟩, sf) = (addR out ⟨sp, na, sw⟩, O)) := ⟨by
      unfold lookG
      rw [if_pos (by unfold toldR; simp only [decide_eq_true_eq]; rw [← HLF.out, ← HRM.out]; exact hle)]
      unfold endR moveS
      simp only
      rw [← HLF.out, ← hmv, ← hna]⟩
    obtain ⟨W3, hW3⟩ : ∃ W3, W3 = W2.setCell ⟨w.heap.size, 1, none⟩ (.int .i64 na) := ⟨_, rfl⟩
    have B3 : Aside0 (Below w.heap.size w W3) := ⟨by rw [hW3]; exact below_set B2.out (Nat.le_refl _)⟩
    have S3 : Aside0 (Bx W3 w.heap.size [.int .i64 sp, .int .i64 na, .int .i64 sw]) := ⟨by rw [hW3]; exact S2.out.set (i := 1) (by simp) _⟩
    have M3 := Aside0.mk (HM.out.below B3.out)
    have HW3 := Aside0.mk hW3
    obtain ⟨o, hup, M4⟩ := M3.out.told ⟨sp, na, sw⟩
    have HM4 := Aside0.mk M4
    clear hmv hb hmb hab hna hW3 M4
    have s1 := S2.out.c 1 _ rfl; have s2 := S2.out.c 2 _ rfl; have sf1 := S2.out.f 1; have sl := S2.out.lt
    have t0 := M3.out.t.c 0 _ rfl
    have q0 := S3.out.c 0 _ rfl; have q1 := S3.out.c 1 _ rfl; have q2 := S3.out.c 2 _ rfl
    go_upto_region 2 with (fail)
    rw [← HW2.out]
    go_upto_region 4 with (fail)
    rw [← HW3.out]
    go_wp2_with fail
    refine bodyPost_ret (v := .tuple #[]) (by simp [results, Try.results162, go_sem]) rfl ?_
    refine ⟨rfl, by rw [HV.out]; exact HM4.out, _, _, _, rfl, .inl rfl, B3.out⟩
  · obtain ⟨mv, hmv⟩ : ∃ m, m = rm * sw := ⟨_, rfl⟩
    have hb : 0 ≤ rm ∧ rm ≤ 10000000 := HRB.out
    have hmb : -10000000 ≤ mv ∧ mv ≤ 10000000 := by
      rcases HXB.out.2.2.1 with h | h <;> (rw [h] at hmv; omega)
    have hab : 0 ≤ sa ∧ sa ≤ 10000000 := by have h1 := HXB.out; have h2 := HLN.out; omega
    have hw1 : IntKind.i64.wrap (rm * sw) = mv := by rw [← hmv]; exact wrap64 (by omega) (by omega)
    obtain ⟨na, hna⟩ : ∃ m, m = sa + mv := ⟨_, rfl⟩
    have hw2 : IntKind.i64.wrap (sa + mv) = na := by rw [hna]; exact wrap64 (by omega) (by omega)
    obtain ⟨nl, hnl⟩ : ∃ m, m = lf - rm := ⟨_, rfl⟩
    have hw3 : IntKind.i64.wrap (lf - rm) = nl := by rw [hnl]; have := HF.out; exact wrap64 (by omega) (by omega)
    have HV : Aside0 (lookG n F (out, O) (⟨sp, sa, sw⟩, sf) = (out, addR O (⟨sp, na, sw⟩, nl))) := ⟨by
      unfold lookG
      rw [if_neg (by unfold toldR; simp only [decide_eq_true_eq]; rw [← HLF.out, ← HRM.out]; exact hle)]
      unfold goR moveS
      simp only
      rw [← HLF.out, ← HRM.out, ← hmv, ← hna, ← hnl]⟩
    obtain ⟨W3, hW3⟩ : ∃ W3, W3 = W2.setCell ⟨w.heap.size, 1, none⟩ (.int .i64 na) := ⟨_, rfl⟩
    have B3 : Aside0 (Below w.heap.size w W3) := ⟨by rw [hW3]; exact below_set B2.out (Nat.le_refl _)⟩
    have S3 : Aside0 (Bx W3 w.heap.size [.int .i64 sp, .int .i64 na, .int .i64 sw]) := ⟨by rw [hW3]; exact S2.out.set (i := 1) (by simp) _⟩
    have M3 := Aside0.mk (HM.out.below B3.out)
    have HW3 := Aside0.mk hW3
    obtain ⟨o, hup, M4⟩ := M3.out.open_ (⟨sp, na, sw⟩, nl)
    have HM4 := Aside0.mk M4
    clear hmv hb hmb hab hna hW3 M4 hnl
    have s1 := S2.out.c 1 _ rfl; have s2 := S2.out.c 2 _ rfl; have sf1 := S2.out.f 1; have sl := S2.out.lt
    have t0 := M3.out.o.c 0 _ rfl
    have q0 := S3.out.c 0 _ rfl; have q1 := S3.out.c 1 _ rfl; have q2 := S3.out.c 2 _ rfl
    go_upto_region 2 with (fail)
    rw [← HW2.out]
    go_upto_region 6 with (fail)
    rw [← HW3.out]
    go_wp2_with fail
    go_end0
    refine ⟨rfl, by rw [HV.out]; exact HM4.out, _, _, _, rfl, .inr rfl, B3.out⟩
theorem look_left (n : NetT) (u : (Option Addr × Nat) × (Option Addr × Nat)) (x : ItemT) (F left : Int) (hl : left = F - x.2) (b3 b7 b8 mt mo : Nat) (out : List SpotT) (O : List ItemT) (w : World) (hr : RdNet 67 w u n) (hg : Good n) (hx : spotB n x.1 = true) (hF : 0 ≤ left ∧ left ≤ 1000000)
    (hn : Bx w b3 [.slice u.1.1 n.pieces.length u.1.2, .slice u.2.1 n.joints.length u.2.2]) (hm : RM w b7 b8 mt mo out O) :
    Calls Try.prog 162 #[.agg #[.int .i64 x.1.piece, .int .i64 x.1.at_, .int .i64 x.1.way], .int .i64 left, .pointer (some ⟨b3, 0, none⟩), .pointer (some ⟨b7, 0, none⟩), .pointer (some ⟨b8, 0, none⟩)] w
      fun e w' => e = .returned (.tuple #[]) ∧ RM w' b7 b8 mt mo (lookG n F (out, O) x).1 (lookG n F (out, O) x).2 ∧ KeepM w w' mt mo := by
  subst hl
  exact look_any n u x F b3 b7 b8 mt mo out O w hr hg hx hF hn hm
/-- An iterator's step, as KeepM tells it. -/
theorem KeepM.step {W W' : World} {r : Nat} {o : Obj} (h : W' = putMap W r o ∨ W' = putMap W.drew r o) : KeepM W W' r r := by
  rcases h with h | h
  · exact ⟨W, r, o, h, .inl rfl, Below.refl _ _⟩
  · exact ⟨W.drew, r, o, h, .inl rfl, below_drew (Below.refl _ _)⟩
/-- Amid a round of the rounds: the two maps, the range over the old one, the net. -/
structure RN (w : World) (nv : List Value) (b7 b8 mt mo2 mo r2 : Nat) (l left : List (ItemT × Bool)) (es : Array MapEntry) (clock : Nat) (W : World) (out : List SpotT) (O : List ItemT) : Prop where
  rm : RM W b7 b8 mt mo2 out O
  it : Iter keyGo Value.bool W mo r2 l left
  hp : W.heap[mo]? = some (.map es clock)
  net : Bx W w.heap.size nv
  b0 : Below w.heap.size w W
  ne : mo ≠ mt ∧ mo ≠ mo2 ∧ r2 ≠ mt ∧ r2 ≠ mo2 ∧ w.heap.size < mt ∧ w.heap.size < mo2 ∧ w.heap.size < r2 ∧ b7 ≠ r2 ∧ b8 ≠ r2
section
variable {w W W1 : World} {nv : List Value} {b7 b8 mt mo2 mo r2 : Nat} {l left left' : List (ItemT × Bool)} {es : Array MapEntry} {clock : Nat} {out out' : List SpotT} {O O' : List ItemT}
theorem RN.below (h : RN w nv b7 b8 mt mo2 mo r2 l left es clock W out O) (hb : Below W.heap.size W W1) : RN w nv b7 b8 mt mo2 mo r2 l left es clock W1 out O :=
  ⟨h.rm.below hb, h.it.below hb, (hb.block mo h.it.map.lt).trans h.hp, h.net.below hb, below_more h.b0 hb, h.ne⟩
theorem RN.look (h : RN w nv b7 b8 mt mo2 mo r2 l left es clock W out O) (k : KeepM W W1 mt mo2) (hm : RM W1 b7 b8 mt mo2 out' O') : RN w nv b7 b8 mt mo2 mo r2 l left es clock W1 out' O' :=
  ⟨hm, k.iter h.it h.ne.1 h.ne.2.1 h.ne.2.2.1 h.ne.2.2.2.1, (k.block h.it.map.lt h.ne.1 h.ne.2.1).trans h.hp, k.bx h.net (by have := h.ne; omega) (by have := h.ne; omega), k.below h.b0 (by have := h.ne; omega) (by have := h.ne; omega) (by have := h.b0.size; omega), h.ne⟩
theorem RN.step (h : RN w nv b7 b8 mt mo2 mo r2 l left es clock W out O) {o : Obj} (k : W1 = putMap W r2 o ∨ W1 = putMap W.drew r2 o) (hi : Iter keyGo Value.bool W1 mo r2 l left') : RN w nv b7 b8 mt mo2 mo r2 l left' es clock W1 out O := by
  have K := KeepM.step k
  have hne := h.ne
  refine ⟨⟨K.bx h.rm.t (by omega) (by omega), K.bx h.rm.o (by omega) (by omega), h.rm.mT.move (K.block h.rm.mT.lt (by omega) (by omega)), h.rm.mO.move (K.block h.rm.mO.lt (by omega) (by omega)), h.rm.ne⟩, hi, (K.block h.it.map.lt h.it.ne h.it.ne).trans h.hp, K.bx h.net (by omega) (by omega), K.below h.b0 (by omega) (by omega) h.b0.size, hne⟩
theorem RN.meas (h : RN w nv b7 b8 mt mo2 mo r2 l left es clock W out O) : (leftOf es (W.iterSeen r2)).size = left.length := by
  obtain ⟨es', clock', h1, h2⟩ := h.it.meas
  rw [h.hp] at h1
  injection h1 with h1
  injection h1 with h1 _
  rw [h1]; exact h2
end
end Go.Proofs.Ytckcffjnffcjcaa
