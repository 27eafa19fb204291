/- Contracts of the laws' functions over paths: their size, their copy, their comparison, their marks. Conditions: sizes. -/
import Derived.Test.YtckcffjnffcjcaaMarks
import Derived.Test.YtckcffjnffcjcaaSzs
import Derived.Test.YtckcffjnffcjcaaEqs
import Derived.Test.YtckcffjnffcjcaaCut0
set_option linter.unusedVariables false
set_option linter.unusedSimpArgs false
namespace Go.Proofs.Ytckcffjnffcjcaa
open Go.RowKit Go.Proofs.YtckcffjnffcjcaaW.PrintWords
theorem Bx.grownB' {W w1 : World} {b : Nat} {row : Option Nat} {vs : List Value} (h : Bx W b vs) (hk : W.grownBy w1 row) (hne : some b ≠ row) : Bx w1 b vs := by
  have e : w1.heap[b]? = W.heap[b]? := hk.block b h.lt hne
  refine ⟨Nat.lt_of_lt_of_le h.lt hk.size, fun i v hv => ?_, fun i => ?_⟩
  · have := h.c i v hv
    unfold World.cell? at this ⊢
    simp only at this ⊢
    rw [e]; exact this
  · have := h.f i
    unfold World.frozen? at this ⊢
    simp only at this ⊢
    rw [e]; exact this
set_option maxRecDepth 100000 in
set_option maxHeartbeats 2000000 in
theorem szPath_any (ok : Bool) (far : Int) (A : Option Addr) (c s : Nat) (B : Option Addr) (d t : Nat) (left : Int) (w : World) (h0 : 0 ≤ left) (h1 : left ≤ 1048576) (hs : s ≤ 9223372036854775807) (ht : t ≤ 9223372036854775807) :
    Calls Try.prog 94 #[.agg #[.bool ok, .int .i64 far, .slice A s c, .slice B t d], .int .i64 left] w
      fun e w' => e = .returned (.int .i64 (cutZ (left - s - t))) ∧ Below w.heap.size w w' := by
  obtain ⟨W0, hW0⟩ : ∃ W0, W0 = w.alloc (.cells #[.bool ok, .int .i64 far, .slice A s c, .slice B t d] 115) := ⟨_, rfl⟩
  have X : Aside0 (Bx W0 w.heap.size [.bool ok, .int .i64 far, .slice A s c, .slice B t d]) := ⟨by rw [hW0]; exact Bx.new w _ 115⟩
  have fb : Aside0 (Below w.heap.size w W0) := ⟨by rw [hW0]; exact below_alloc (Below.refl _ _) _⟩
  have HW := Aside0.mk hW0
  clear hW0
  have x2 := X.out.c 2 _ rfl; have x3 := X.out.c 3 _ rfl
  by_cases h : left - (s : Int) < 0
  · have e1 := Aside0.mk (cutZ_neg h)
    have e2 := Aside0.mk (cutZ_neg (x := left - s - t) (by omega))
    go_enter Try.func94, Try.ntmps94
    go_wp2_with (go_at_call 74; rw [← HW.out]; (with_reducible refine Calls.mono (szStepS_any A c s left _ h0 h1 hs) ?_); rintro e w3 ⟨rfl, rfl⟩; rw [e1.out])
    go_ret
    exact ⟨by rw [e2.out]; rfl, fb.out⟩
  · have e1 := Aside0.mk (cutZ_pos (x := left - s) (by omega))
    obtain ⟨z, hz⟩ : ∃ z, z = left - (s : Int) := ⟨_, rfl⟩
    have hz0 : 0 ≤ z := by omega
    have hz1 : z ≤ 1048576 := by omega
    rw [← hz] at e1
    by_cases h2 : z - (t : Int) < 0
    · have e3 := Aside0.mk (cutZ_neg h2)
      have HZ := Aside0.mk hz
      have hzn : ¬ z < 0 := by omega
      clear hz
      go_enter Try.func94, Try.ntmps94
      go_wp2_with (first | (go_at_call 74; rw [← HW.out]; (with_reducible refine Calls.mono (szStepS_any A c s left _ h0 h1 hs) ?_); rintro e w3 ⟨rfl, rfl⟩; rw [← HZ.out, e1.out]) | (go_at_call 159; (with_reducible refine Calls.mono (szLieS_any B d t z _ hz0 hz1 ht) ?_); rintro e w4 ⟨rfl, rfl⟩; rw [e3.out]))
      go_ret
      exact ⟨by rw [← HZ.out, e3.out]; rfl, fb.out⟩
    · have e3 := Aside0.mk (cutZ_pos (x := z - t) (by omega))
      obtain ⟨y, hy⟩ : ∃ y, y = z - (t : Int) := ⟨_, rfl⟩
      rw [← hy] at e3
      have hyn : ¬ y < 0 := by omega
      have hzn : ¬ z < 0 := by omega
      have HY := Aside0.mk hy
      have HZ := Aside0.mk hz
      clear hz hy
      go_enter Try.func94, Try.ntmps94
      go_wp2_with (first | (go_at_call 74; rw [← HW.out]; (with_reducible refine Calls.mono (szStepS_any A c s left _ h0 h1 hs) ?_); rintro e w3 ⟨rfl, rfl⟩; rw [← HZ.out, e1.out]) | (go_at_call 159; (with_reducible refine Calls.mono (szLieS_any B d t z _ hz0 hz1 ht) ?_); rintro e w4 ⟨rfl, rfl⟩; rw [← HY.out, e3.out]))
      go_ret
      exact ⟨by rw [← HZ.out, ← HY.out, e3.out]; rfl, fb.out⟩
set_option maxRecDepth 100000 in
set_option maxHeartbeats 2000000 in
theorem eqPath_any (ok : Bool) (far : Int) (l : List StepT) (m : List LieT) (A0 : Option Addr) (c0 : Nat) (B0 : Option Addr) (d0 : Nat) (A1 : Option Addr) (c1 : Nat) (B1 : Option Addr) (d1 : Nat) (w : World)
    (ha : Kd.C kStep w A0 l.length l) (hb : Kd.C kLie w B0 m.length m) (hc : Kd.C kStep w A1 l.length l) (hd : Kd.C kLie w B1 m.length m) :
    Calls Try.prog 96 #[.agg #[.bool ok, .int .i64 far, .slice A0 l.length c0, .slice B0 m.length d0], .agg #[.bool ok, .int .i64 far, .slice A1 l.length c1, .slice B1 m.length d1]] w
      fun e w' => e = .returned (.bool true) ∧ Below w.heap.size w w' := by
  have HA := Aside0.mk ha
  have HB := Aside0.mk hb
  have HC := Aside0.mk hc
  have HD := Aside0.mk hd
  clear ha hb hc hd
  obtain ⟨W0, hW0⟩ : ∃ W0, W0 = (w.alloc (.cells #[.bool ok, .int .i64 far, .slice A0 l.length c0, .slice B0 m.length d0] 108)).alloc (.cells #[.bool ok, .int .i64 far, .slice A1 l.length c1, .slice B1 m.length d1] 108) := ⟨_, rfl⟩
  have X : Aside0 (Bx W0 w.heap.size [.bool ok, .int .i64 far, .slice A0 l.length c0, .slice B0 m.length d0]) := ⟨by rw [hW0]; exact (Bx.new w _ 108).alloc _⟩
  have Y : Aside0 (Bx W0 (w.heap.size + 1) [.bool ok, .int .i64 far, .slice A1 l.length c1, .slice B1 m.length d1]) := ⟨by
    have := Bx.new (w.alloc (.cells #[.bool ok, .int .i64 far, .slice A0 l.length c0, .slice B0 m.length d0] 108)) [.bool ok, .int .i64 far, .slice A1 l.length c1, .slice B1 m.length d1] 108
    rw [hW0]; simpa using this⟩
  have fb : Aside0 (Below w.heap.size w W0) := ⟨by rw [hW0]; exact below_two _ _ _⟩
  have HW := Aside0.mk hW0
  clear hW0
  have hok : (ok != ok) = false := by cases ok <;> rfl
  have hfar : (far != far) = false := by simp
  go_enter Try.func96, Try.ntmps96
  go_wp2_with (go_at_call 79; rw [← HW.out]; (with_reducible refine Calls.mono (eqStepS_any A0 c0 l A1 c1 l _ (Kd.C_below HA.out fb.out) (Kd.C_below HC.out fb.out)) ?_); rintro e w3 ⟨rfl, b3⟩; rw [show decide (l = l) = true by simp]; have B3 := Aside0.mk (below_more fb.out b3); have X3 := Aside0.mk (X.out.below b3); have Y3 := Aside0.mk (Y.out.below b3); clear b3; have x3 := X3.out.c 3 _ rfl; have y3 := Y3.out.c 3 _ rfl)
  (with_reducible refine Calls.mono (eqLieS_any B0 d0 m B1 d1 m _ (Kd.C_below HB.out B3.out) (Kd.C_below HD.out B3.out)) ?_)
  rintro e w4 ⟨rfl, b4⟩
  rw [show decide (m = m) = true by simp]
  have B4 := Aside0.mk (below_more B3.out b4)
  clear b4 x3 y3
  go_wp2_with fail
  go_ret
  exact ⟨rfl, B4.out⟩
set_option maxRecDepth 100000 in
set_option maxHeartbeats 2000000 in
theorem markPath_any (base : Nat) (ok : Bool) (far : Int) (vs vl : Value) (l : List StepT) (m : List LieT) (k : Int) (w0 w : World) (hs : Kd.R kStep 85 w base (fun _ => True) vs l) (hl : Kd.R kLie 111 w base (fun _ => True) vl m) (hb : Below base w0 w) (hbs : base ≤ w.heap.size) (h0 : 0 ≤ k) (h1 : k + 2 * (l.length : Int) + 2 * (m.length : Int) ≤ 9223372036854775800) :
    Calls Try.prog 97 #[.agg #[.bool ok, .int .i64 far, vs, vl], .int .i64 k] w
      fun e w' => e = .returned (.int .i64 (k + 2 * (l.length : Int) + 2 * (m.length : Int))) ∧ Below base w0 w' ∧ ∀ i, i < w.heap.size → some i ≠ vs.ownBlock → some i ≠ vl.ownBlock → w'.heap[i]? = w.heap[i]? := by
  obtain ⟨As, cs, rfl⟩ := Kd.R_slice hs
  obtain ⟨Al, cl, rfl⟩ := Kd.R_slice hl
  obtain ⟨W0, hW0⟩ : ∃ W0, W0 = w.alloc (.cells #[.bool ok, .int .i64 far, .slice As l.length cs, .slice Al m.length cl] 108) := ⟨_, rfl⟩
  have X : Aside0 (Bx W0 w.heap.size [.bool ok, .int .i64 far, .slice As l.length cs, .slice Al m.length cl]) := ⟨by rw [hW0]; exact Bx.new w _ 108⟩
  have fb : Aside0 (Below w.heap.size w W0) := ⟨by rw [hW0]; exact below_alloc (Below.refl _ _) _⟩
  have FB0 : Aside0 (Below base w0 W0) := ⟨hb.trans ⟨fb.out.os, fb.out.tape, fb.out.output, fb.out.size, fun i hi => fb.out.block i (by omega)⟩⟩
  have HSz : Aside0 (W0.heap.size = w.heap.size + 1) := ⟨by rw [hW0]; simp⟩
  have RS := Aside0.mk (Kd.R_below hs fb.out)
  have RL := Aside0.mk (Kd.R_below hl fb.out)
  have HLS := Aside0.mk (Kd.R_lt hs)
  have HLL := Aside0.mk (Kd.R_lt hl)
  have HW := Aside0.mk hW0
  clear hW0 hs hl hb
  go_enter Try.func97, Try.ntmps97
  go_wp2_with (go_at_call 80; rw [← HW.out]; (with_reducible refine Calls.mono (markStepS_any base (fun _ => True) (.slice As l.length cs) l k w0 _ RS.out FB0.out h0 (by omega)) ?_); rintro e w3 ⟨rfl, r3, b3, g3⟩; have B3 := Aside0.mk b3; have G3 := Aside0.mk g3; have X3 := Aside0.mk (X.out.grownB' g3 (fun he => by have := HLS.out _ he.symm; omega)); have L3 := Aside0.mk (Kd.R_over RL.out RS.out (by decide) g3); clear r3 b3 g3; have x3 := X3.out.c 3 _ rfl)
  (with_reducible refine Calls.mono (markLieS_any base (fun _ => True) (.slice Al m.length cl) m (k + 2 * (l.length : Int)) w0 _ L3.out B3.out (by omega) (by omega)) ?_)
  rintro e w4 ⟨rfl, r4, b4, g4⟩
  have B4 := Aside0.mk b4
  have G4 := Aside0.mk g4
  clear r4 b4 g4 x3
  go_wp2_with fail
  go_ret
  refine ⟨rfl, B4.out, fun i hi h2 h3 => ?_⟩
  have hz := HSz.out
  rw [G4.out.block i (Nat.lt_of_lt_of_le (by omega) G3.out.size) h3, G3.out.block i (by omega) h2]
  exact fb.out.block i hi
set_option maxRecDepth 100000 in
set_option maxHeartbeats 4000000 in
theorem toPath_any (ok : Bool) (far : Int) (l : List StepT) (m : List LieT) (A : Option Addr) (c : Nat) (B : Option Addr) (d : Nat) (w : World) (ha : Kd.C kStep w A l.length l) (hb : Kd.C kLie w B m.length m) (hl : l.length ≤ 1048576) (hm : m.length ≤ 1048576) :
    Calls Try.prog 95 #[.agg #[.bool ok, .int .i64 far, .slice A l.length c, .slice B m.length d]] w
      fun e w' => ∃ vs vl, e = .returned (.agg #[.bool ok, .int .i64 far, vs, vl]) ∧ Kd.R kStep 85 w' w.heap.size (fun _ => True) vs l ∧ Kd.R kLie 111 w' w.heap.size (fun _ => True) vl m ∧ Below w.heap.size w w' := by
  have HA := Aside0.mk ha
  have HB := Aside0.mk hb
  clear ha hb
  obtain ⟨W0, hW0⟩ : ∃ W0, W0 = ((w.alloc (.cells #[.bool ok, .int .i64 far, .slice A l.length c, .slice B m.length d] 115)).alloc (.cells #[.bool false, .int .i64 0, .slice none 0 0, .slice none 0 0] 108)).alloc (.cells #[.bool ok, .int .i64 far, .slice none 0 0, .slice none 0 0] 108) := ⟨_, rfl⟩
  have X : Aside0 (Bx W0 w.heap.size [.bool ok, .int .i64 far, .slice A l.length c, .slice B m.length d]) := ⟨by rw [hW0]; exact ((Bx.new w _ 115).alloc _).alloc _⟩
  have Y : Aside0 (Bx W0 (w.heap.size + 1) [.bool false, .int .i64 0, .slice none 0 0, .slice none 0 0]) := ⟨by
    have := (Bx.new (w.alloc (.cells #[.bool ok, .int .i64 far, .slice A l.length c, .slice B m.length d] 115)) [.bool false, .int .i64 0, .slice none 0 0, .slice none 0 0] 108).alloc (.cells #[.bool ok, .int .i64 far, .slice none 0 0, .slice none 0 0] 108)
    rw [hW0]; simpa using this⟩
  have Z : Aside0 (Bx W0 (w.heap.size + 1 + 1) [.bool ok, .int .i64 far, .slice none 0 0, .slice none 0 0]) := ⟨by
    have := Bx.new ((w.alloc (.cells #[.bool ok, .int .i64 far, .slice A l.length c, .slice B m.length d] 115)).alloc (.cells #[.bool false, .int .i64 0, .slice none 0 0, .slice none 0 0] 108)) [.bool ok, .int .i64 far, .slice none 0 0, .slice none 0 0] 108
    rw [hW0]; simpa using this⟩
  have fb : Aside0 (Below w.heap.size w W0) := ⟨by rw [hW0]; exact below_three _ _ _ _⟩
  have HSz : Aside0 (W0.heap.size = w.heap.size + 3) := ⟨by rw [hW0]; simp⟩
  have HW := Aside0.mk hW0
  have px := (((Bx.new w [.bool ok, .int .i64 far, .slice A l.length c, .slice B m.length d] 115).alloc (.cells #[.bool false, .int .i64 0, .slice none 0 0, .slice none 0 0] 108)).alloc (.cells #[.bool false, .int .i64 0, .slice none 0 0, .slice none 0 0] 108))
  have px0 := px.c 0 _ rfl
  have px1 := (((Bx.new w [.bool ok, .int .i64 far, .slice A l.length c, .slice B m.length d] 115).alloc (.cells #[.bool false, .int .i64 0, .slice none 0 0, .slice none 0 0] 108)).alloc (.cells #[.bool ok, .int .i64 0, .slice none 0 0, .slice none 0 0] 108)).c 1 _ rfl
  have px2 := X.out.c 2 _ rfl
  rw [hW0] at px2
  clear hW0 px
  go_enter Try.func95, Try.ntmps95
  go_wp2_with fail
  rw [← HW.out]
  clear px0 px1 px2
  (with_reducible refine Calls.mono (toStepS_any A c l _ (Kd.C_below HA.out fb.out) hl) ?_)
  rintro e w3 ⟨vs, rfl, r3, b3⟩
  obtain ⟨As, cs, rfl⟩ := Kd.R_slice r3
  have X3 := Aside0.mk (X.out.below b3)
  have Y3 := Aside0.mk (Y.out.below b3)
  have Z3 := Aside0.mk (Z.out.below b3)
  have B3 := Aside0.mk (below_more fb.out b3)
  have R3 := Aside0.mk r3
  have hz3 := b3.size
  clear r3 b3
  have z2 := Z3.out.c 2 _ rfl; have zf2 := Z3.out.f 2; have zl := Z3.out.lt
  have X4 := Aside0.mk (X3.out.far (show w.heap.size ≠ w.heap.size + 1 + 1 by omega) (i := 2) (.slice As l.length cs))
  have x3 := X4.out.c 3 _ rfl
  go_wp2_with fail
  obtain ⟨W4, hW4⟩ : ∃ W4, W4 = w3.setCell ⟨w.heap.size + 1 + 1, 2, none⟩ (.slice As l.length cs) := ⟨_, rfl⟩
  have Z4 : Aside0 (Bx W4 (w.heap.size + 1 + 1) [.bool ok, .int .i64 far, .slice As l.length cs, .slice none 0 0]) := ⟨by rw [hW4]; exact Z3.out.set (i := 2) (by simp) _⟩
  have Y4 : Aside0 (Bx W4 (w.heap.size + 1) [.bool false, .int .i64 0, .slice none 0 0, .slice none 0 0]) := ⟨by rw [hW4]; exact Y3.out.far (by omega) _⟩
  have B4 : Aside0 (Below w.heap.size w W4) := ⟨by rw [hW4]; exact below_set B3.out (show w.heap.size ≤ w.heap.size + 1 + 1 by omega)⟩
  have R4 : Aside0 (Kd.R kStep 85 W4 W0.heap.size (fun _ => True) (.slice As l.length cs) l) := ⟨by rw [hW4]; exact R_apart (p := ⟨w.heap.size + 1 + 1, 2, none⟩) R3.out (by have := HSz.out; show w.heap.size + 1 + 1 < W0.heap.size; omega) _⟩
  have HZ4 : Aside0 (W4.heap.size = w3.heap.size) := ⟨by rw [hW4]; simp [World.setCell]⟩
  rw [← hW4]
  clear hW4 z2 zf2 zl x3 X4
  (with_reducible refine Calls.mono (toLieS_any B d m _ (Kd.C_below HB.out B4.out) hm) ?_)
  rintro e w5 ⟨vl, rfl, r5, b5⟩
  obtain ⟨Al, cl, rfl⟩ := Kd.R_slice r5
  have Z5 := Aside0.mk (Z4.out.below b5)
  have Y5 := Aside0.mk (Y4.out.below b5)
  have B5 := Aside0.mk (below_more B4.out b5)
  have R5 := Aside0.mk (Kd.R_below R4.out b5)
  have S5 := Aside0.mk r5
  clear r5 b5
  have z0 := Z5.out.c 0 _ rfl; have z1 := Z5.out.c 1 _ rfl; have z2 := Z5.out.c 2 _ rfl; have z3 := Z5.out.c 3 _ rfl; have zf3 := Z5.out.f 3; have zl := Z5.out.lt
  have y0 := Y5.out.c 0 _ rfl; have y1 := Y5.out.c 1 _ rfl; have y2 := Y5.out.c 2 _ rfl; have y3 := Y5.out.c 3 _ rfl; have yf0 := Y5.out.f 0; have yf1 := Y5.out.f 1; have yf2 := Y5.out.f 2; have yf3 := Y5.out.f 3; have yl := Y5.out.lt
  go_wp2_with fail
  refine bodyPost_ret (v := .agg #[.bool ok, .int .i64 far, .slice As l.length cs, .slice Al m.length cl]) (by simp [results, Try.results95, go_sem, y0, y1, y2, y3, yf0, yf1, yf2, yf3, yl, zl]) rfl ⟨_, _, rfl, ?_, ?_, ?_⟩
  · have hz := HSz.out
    refine Kd.R_lower (base := W0.heap.size) ?_ (by omega)
    repeat (first | (with_reducible exact R5.out) | (with_reducible refine R_apart ?_ (by simp only; omega) _))
  · have hz := HSz.out
    have hz4 := HZ4.out
    refine Kd.R_lower (base := W4.heap.size) ?_ (by omega)
    repeat (first | (with_reducible exact S5.out) | (with_reducible refine R_apart ?_ (by simp only; omega) _))
  · repeat (first | (with_reducible exact B5.out) | (with_reducible refine below_set ?_ (by omega)))
end Go.Proofs.Ytckcffjnffcjcaa
