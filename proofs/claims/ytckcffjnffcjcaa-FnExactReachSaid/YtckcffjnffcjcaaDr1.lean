/- Contracts of what tells where a spot looks, how far it is to there, and where one enters: l3head, l3room, l3enter, room, enter, looked, comes, l4step. Conditions: the piece is one of the net. -/
import Derived.Test.YtckcffjnffcjcaaOver
import Derived.Test.YtckcffjnffcjcaaWays
set_option linter.unusedVariables false
set_option linter.unusedSimpArgs false
namespace Go.Proofs.Ytckcffjnffcjcaa
open Go.RowKit Go.Proofs.YtckcffjnffcjcaaW.PrintWords
set_option maxRecDepth 100000 in
theorem l3head_any (s : SpotT) (w : World) :
    Calls Try.prog 157 #[.agg #[.int .i64 s.piece, .int .i64 s.at_, .int .i64 s.way]] w fun e w' => e = .returned (Value.agg #[.int .i64 (headE s).piece, .int .i64 (headE s).side]) ∧ Below w.heap.size w w' := by
  by_cases h : s.way = 1
  · have h1 : (s.way == 1) = true := by simpa using h
    have HV : Aside0 ((Value.agg #[.int .i64 (headE s).piece, .int .i64 (headE s).side]) = (Value.agg #[.int .i64 s.piece, .int .i64 1])) := ⟨by simp [headE, lookS, comesS, h]⟩
    clear h
    go_enter Try.func157, Try.ntmps157
    go_wp2
    exact bodyPost_ret (v := Value.agg #[.int .i64 s.piece, .int .i64 1]) (by simp [results, Try.results157, go_sem]) rfl ⟨by rw [HV.out], by
      repeat (first | (with_reducible exact Below.refl _ _) | (with_reducible exact fb.out) | (with_reducible refine below_drewN' ?_ _) | (with_reducible refine below_drew ?_) | (with_reducible refine below_set ?_ (by simp; done)) | (with_reducible refine below_set ?_ (by omega)) | (with_reducible refine below_alloc ?_ _))⟩
  · have h1 : (s.way == 1) = false := by simpa using h
    have HV : Aside0 ((Value.agg #[.int .i64 (headE s).piece, .int .i64 (headE s).side]) = (Value.agg #[.int .i64 s.piece, .int .i64 0])) := ⟨by simp [headE, lookS, comesS, h]⟩
    clear h
    go_enter Try.func157, Try.ntmps157
    go_wp2
    exact bodyPost_ret (v := Value.agg #[.int .i64 s.piece, .int .i64 0]) (by simp [results, Try.results157, go_sem]) rfl ⟨by rw [HV.out], by
      repeat (first | (with_reducible exact Below.refl _ _) | (with_reducible exact fb.out) | (with_reducible refine below_drewN' ?_ _) | (with_reducible refine below_drew ?_) | (with_reducible refine below_set ?_ (by simp; done)) | (with_reducible refine below_set ?_ (by omega)) | (with_reducible refine below_alloc ?_ _))⟩
set_option maxRecDepth 100000 in
theorem looked_any (s : StepT) (w : World) :
    Calls Try.prog 155 #[.agg #[.int .i64 s.piece, .int .i64 s.way]] w fun e w' => e = .returned (Value.agg #[.int .i64 (lookS s).piece, .int .i64 (lookS s).side]) ∧ Below w.heap.size w w' := by
  by_cases h : s.way = 1
  · have h1 : (s.way == 1) = true := by simpa using h
    have HV : Aside0 ((Value.agg #[.int .i64 (lookS s).piece, .int .i64 (lookS s).side]) = (Value.agg #[.int .i64 s.piece, .int .i64 1])) := ⟨by simp [headE, lookS, comesS, h]⟩
    clear h
    go_enter Try.func155, Try.ntmps155
    go_wp2
    exact bodyPost_ret (v := Value.agg #[.int .i64 s.piece, .int .i64 1]) (by simp [results, Try.results155, go_sem]) rfl ⟨by rw [HV.out], by
      repeat (first | (with_reducible exact Below.refl _ _) | (with_reducible exact fb.out) | (with_reducible refine below_drewN' ?_ _) | (with_reducible refine below_drew ?_) | (with_reducible refine below_set ?_ (by simp; done)) | (with_reducible refine below_set ?_ (by omega)) | (with_reducible refine below_alloc ?_ _))⟩
  · have h1 : (s.way == 1) = false := by simpa using h
    have HV : Aside0 ((Value.agg #[.int .i64 (lookS s).piece, .int .i64 (lookS s).side]) = (Value.agg #[.int .i64 s.piece, .int .i64 0])) := ⟨by simp [headE, lookS, comesS, h]⟩
    clear h
    go_enter Try.func155, Try.ntmps155
    go_wp2
    exact bodyPost_ret (v := Value.agg #[.int .i64 s.piece, .int .i64 0]) (by simp [results, Try.results155, go_sem]) rfl ⟨by rw [HV.out], by
      repeat (first | (with_reducible exact Below.refl _ _) | (with_reducible exact fb.out) | (with_reducible refine below_drewN' ?_ _) | (with_reducible refine below_drew ?_) | (with_reducible refine below_set ?_ (by simp; done)) | (with_reducible refine below_set ?_ (by omega)) | (with_reducible refine below_alloc ?_ _))⟩
set_option maxRecDepth 100000 in
theorem comes_any (x : EndT) (w : World) :
    Calls Try.prog 181 #[.agg #[.int .i64 x.piece, .int .i64 x.side]] w fun e w' => e = .returned (Value.agg #[.int .i64 (comesS x).piece, .int .i64 (comesS x).way]) ∧ Below w.heap.size w w' := by
  by_cases h : x.side = 0
  · have h1 : (x.side == 0) = true := by simpa using h
    have HV : Aside0 ((Value.agg #[.int .i64 (comesS x).piece, .int .i64 (comesS x).way]) = (Value.agg #[.int .i64 x.piece, .int .i64 1])) := ⟨by simp [headE, lookS, comesS, h]⟩
    clear h
    go_enter Try.func181, Try.ntmps181
    go_wp2
    exact bodyPost_ret (v := Value.agg #[.int .i64 x.piece, .int .i64 1]) (by simp [results, Try.results181, go_sem]) rfl ⟨by rw [HV.out], by
      repeat (first | (with_reducible exact Below.refl _ _) | (with_reducible exact fb.out) | (with_reducible refine below_drewN' ?_ _) | (with_reducible refine below_drew ?_) | (with_reducible refine below_set ?_ (by simp; done)) | (with_reducible refine below_set ?_ (by omega)) | (with_reducible refine below_alloc ?_ _))⟩
  · have h1 : (x.side == 0) = false := by simpa using h
    have HV : Aside0 ((Value.agg #[.int .i64 (comesS x).piece, .int .i64 (comesS x).way]) = (Value.agg #[.int .i64 x.piece, .int .i64 (-1)])) := ⟨by simp [headE, lookS, comesS, h]⟩
    clear h
    go_enter Try.func181, Try.ntmps181
    go_wp2
    exact bodyPost_ret (v := Value.agg #[.int .i64 x.piece, .int .i64 (-1)]) (by simp [results, Try.results181, go_sem]) rfl ⟨by rw [HV.out], by
      repeat (first | (with_reducible exact Below.refl _ _) | (with_reducible exact fb.out) | (with_reducible refine below_drewN' ?_ _) | (with_reducible refine below_drew ?_) | (with_reducible refine below_set ?_ (by simp; done)) | (with_reducible refine below_set ?_ (by omega)) | (with_reducible refine below_alloc ?_ _))⟩
set_option maxRecDepth 100000 in
theorem l4step_any (s : SpotT) (w : World) :
    Calls Try.prog 152 #[.agg #[.int .i64 s.piece, .int .i64 s.at_, .int .i64 s.way]] w fun e w' => e = .returned (.agg #[.int .i64 s.piece, .int .i64 s.way]) ∧ Below w.heap.size w w' := by
  go_enter Try.func152, Try.ntmps152
  go_wp2
  try go_region
  all_goals
    try go_wp2
    exact bodyPost_ret (v := .agg #[.int .i64 s.piece, .int .i64 s.way]) (by simp [results, Try.results152, go_sem]) rfl ⟨rfl, by
      repeat (first | (with_reducible exact Below.refl _ _) | (with_reducible exact fb.out) | (with_reducible refine below_drewN' ?_ _) | (with_reducible refine below_drew ?_) | (with_reducible refine below_set ?_ (by simp; done)) | (with_reducible refine below_set ?_ (by omega)) | (with_reducible refine below_alloc ?_ _))⟩
set_option maxRecDepth 100000 in
set_option maxHeartbeats 1000000 in
theorem l3room_any (n : NetT) (u : (Option Addr × Nat) × (Option Addr × Nat)) (s : SpotT) (w : World) (hr : RdNet 67 w u n) (hp : 0 ≤ s.piece) (hl : s.piece < (n.pieces.length : Int)) (ha0 : 0 ≤ s.at_) (ha1 : s.at_ ≤ lenP n s.piece) (hlen : lenP n s.piece ≤ 10000000) :
    Calls Try.prog 158 #[.agg #[.slice u.1.1 n.pieces.length u.1.2, .slice u.2.1 n.joints.length u.2.2], .agg #[.int .i64 s.piece, .int .i64 s.at_, .int .i64 s.way]] w fun e w' => e = .returned (.int .i64 (roomS n s)) ∧ Below w.heap.size w w' := by
  have hm := hr.1.1.2.1
  obtain ⟨⟨A0, c0⟩, ⟨A1, c1⟩⟩ := u
  obtain ⟨sp, sa, sw⟩ := s
  simp only at hp hl ha0 ha1 hlen ⊢
  obtain ⟨i, hi⟩ := Int.eq_ofNat_of_zero_le hp
  subst hi
  have hlt : i < n.pieces.length := by omega
  obtain ⟨ad0, e0, y0, y1, y2, y3⟩ := at_Piece hr.1.1 i hlt
  simp only at e0
  subst e0
  clear hr hp y0 y2 y3
  unfold lenP at ha1 hlen
  rw [Int.toNat_natCast] at ha1 hlen
  obtain ⟨L, hL⟩ : ∃ L, L = (n.pieces.getD i default).len := ⟨_, rfl⟩
  rw [← hL] at y1 ha1 hlen
  have HL := Aside0.mk (show lenP n (i : Int) = L by unfold lenP; rw [Int.toNat_natCast, hL])
  clear hL
  obtain ⟨W0, hW0, hN, hS, fb0, hsz⟩ := box2 w [.slice (some ad0) n.pieces.length c0, .slice A1 n.joints.length c1] [.int .i64 i, .int .i64 sa, .int .i64 sw] 35 38
  have fb := Aside0.mk fb0
  clear hsz
  have n0 := hN.c 0 _ rfl
  have m0 := hS.c 0 _ rfl
  have m1 := hS.c 1 _ rfl
  have m2 := hS.c 2 _ rfl
  have hsz0 := hS.lt
  replace y1 := pw_cell_below fb0 y1
  have HW := Aside0.mk hW0
  clear hW0 fb0 hN hS
  have hsub : IntKind.i64.wrap (L - sa) = L - sa := wrap64 (by omega) (by omega)
  by_cases h : sw = 1
  · subst h
    have HV : Aside0 ((.int .i64 (roomS n ⟨i, sa, 1⟩) : Value) = (.int .i64 (L - sa))) := ⟨by simp [roomS, headE, HL.out]⟩
    go_enter Try.func158, Try.ntmps158
    go_wp2
    try rw [← HW.out]
    go_quiet (fail)
    all_goals
      try go_wp2
      refine bodyPost_ret (v := .int .i64 (L - sa)) (by simp [results, Try.results158, go_sem]) rfl ⟨by rw [HV.out], ?_⟩
      repeat (first | (with_reducible exact Below.refl _ _) | (with_reducible exact fb.out) | (with_reducible refine below_drewN' ?_ _) | (with_reducible refine below_drew ?_) | (with_reducible refine below_set ?_ (by simp; done)) | (with_reducible refine below_set ?_ (by omega)) | (with_reducible refine below_alloc ?_ _))
  · have h1 : (sw == 1) = false := by simpa using h
    have HV : Aside0 ((.int .i64 (roomS n ⟨i, sa, sw⟩) : Value) = (.int .i64 (sa))) := ⟨by simp [roomS, headE, h]⟩
    clear h
    go_enter Try.func158, Try.ntmps158
    go_wp2
    try rw [← HW.out]
    skip
    all_goals
      try go_wp2
      refine bodyPost_ret (v := .int .i64 (sa)) (by simp [results, Try.results158, go_sem]) rfl ⟨by rw [HV.out], ?_⟩
      repeat (first | (with_reducible exact Below.refl _ _) | (with_reducible exact fb.out) | (with_reducible refine below_drewN' ?_ _) | (with_reducible refine below_drew ?_) | (with_reducible refine below_set ?_ (by simp; done)) | (with_reducible refine below_set ?_ (by omega)) | (with_reducible refine below_alloc ?_ _))
set_option maxRecDepth 100000 in
set_option maxHeartbeats 1000000 in
theorem room_any (n : NetT) (u : (Option Addr × Nat) × (Option Addr × Nat)) (s : SpotT) (w : World) (hr : RdNet 67 w u n) (hp : 0 ≤ s.piece) (hl : s.piece < (n.pieces.length : Int)) (ha0 : 0 ≤ s.at_) (ha1 : s.at_ ≤ lenP n s.piece) (hlen : lenP n s.piece ≤ 10000000) :
    Calls Try.prog 156 #[.agg #[.slice u.1.1 n.pieces.length u.1.2, .slice u.2.1 n.joints.length u.2.2], .agg #[.int .i64 s.piece, .int .i64 s.at_, .int .i64 s.way]] w fun e w' => e = .returned (.tuple #[.int .i64 (roomS n s), .agg #[.int .i64 (headE s).piece, .int .i64 (headE s).side]]) ∧ Below w.heap.size w w' := by
  have hm := hr.1.1.2.1
  obtain ⟨⟨A0, c0⟩, ⟨A1, c1⟩⟩ := u
  obtain ⟨sp, sa, sw⟩ := s
  simp only at hp hl ha0 ha1 hlen ⊢
  obtain ⟨i, hi⟩ := Int.eq_ofNat_of_zero_le hp
  subst hi
  have hlt : i < n.pieces.length := by omega
  obtain ⟨ad0, e0, y0, y1, y2, y3⟩ := at_Piece hr.1.1 i hlt
  simp only at e0
  subst e0
  clear hr hp y0 y2 y3
  unfold lenP at ha1 hlen
  rw [Int.toNat_natCast] at ha1 hlen
  obtain ⟨L, hL⟩ : ∃ L, L = (n.pieces.getD i default).len := ⟨_, rfl⟩
  rw [← hL] at y1 ha1 hlen
  have HL := Aside0.mk (show lenP n (i : Int) = L by unfold lenP; rw [Int.toNat_natCast, hL])
  clear hL
  obtain ⟨W0, hW0, hN, hS, fb0, hsz⟩ := box2 w [.slice (some ad0) n.pieces.length c0, .slice A1 n.joints.length c1] [.int .i64 i, .int .i64 sa, .int .i64 sw] 35 38
  have fb := Aside0.mk fb0
  obtain ⟨W1, hW1⟩ : ∃ W1, W1 = W0.alloc (.cells #[.int .i64 0, .int .i64 0] 67) := ⟨_, rfl⟩
  replace fb := Aside0.mk (show Below w.heap.size w W1 by rw [hW1]; exact below_alloc fb0 _)
  have hX : Bx W1 (w.heap.size + 2) [.int .i64 0, .int .i64 0] := by rw [hW1, ← hsz]; exact Bx.new W0 _ 67
  replace hN := hN.alloc (.cells #[.int .i64 0, .int .i64 0] 67)
  replace hS := hS.alloc (.cells #[.int .i64 0, .int .i64 0] 67)
  rw [← hW1] at hN hS
  have x0 := hX.c 0 _ rfl
  have x1 := hX.c 1 _ rfl
  have xf0 := hX.f 0
  have xf1 := hX.f 1
  have hsz2 := hX.lt
  replace fb0 := fb.out
  replace hW0 := show W1 = ((w.alloc (.cells #[.slice (some ad0) n.pieces.length c0, .slice A1 n.joints.length c1] 35)).alloc (.cells #[.int .i64 i, .int .i64 sa, .int .i64 sw] 38)).alloc (.cells #[.int .i64 0, .int .i64 0] 67) by rw [hW1, hW0]
  clear hW1 hX hsz
  have n0 := hN.c 0 _ rfl
  have m0 := hS.c 0 _ rfl
  have m1 := hS.c 1 _ rfl
  have m2 := hS.c 2 _ rfl
  have hsz0 := hS.lt
  replace y1 := pw_cell_below fb0 y1
  have HW := Aside0.mk hW0
  clear hW0 fb0 hN hS
  have hsub : IntKind.i64.wrap (L - sa) = L - sa := wrap64 (by omega) (by omega)
  by_cases h : sw = 1
  · subst h
    have HV : Aside0 ((.tuple #[.int .i64 (roomS n ⟨i, sa, 1⟩), .agg #[.int .i64 (headE ⟨i, sa, 1⟩).piece, .int .i64 (headE ⟨i, sa, 1⟩).side]] : Value) = (.tuple #[.int .i64 (L - sa), .agg #[.int .i64 i, .int .i64 1]])) := ⟨by simp [roomS, headE, HL.out]⟩
    go_enter Try.func156, Try.ntmps156
    go_wp2
    try rw [← HW.out]
    go_region
    all_goals
      try go_wp2
      refine bodyPost_ret (v := .tuple #[.int .i64 (L - sa), .agg #[.int .i64 i, .int .i64 1]]) (by simp [results, Try.results156, go_sem, x0, x1, xf0, xf1, hsz2]) rfl ⟨by rw [HV.out], ?_⟩
      repeat (first | (with_reducible exact Below.refl _ _) | (with_reducible exact fb.out) | (with_reducible refine below_drewN' ?_ _) | (with_reducible refine below_drew ?_) | (with_reducible refine below_set ?_ (by simp; done)) | (with_reducible refine below_set ?_ (by omega)) | (with_reducible refine below_alloc ?_ _))
  · have h1 : (sw == 1) = false := by simpa using h
    have HV : Aside0 ((.tuple #[.int .i64 (roomS n ⟨i, sa, sw⟩), .agg #[.int .i64 (headE ⟨i, sa, sw⟩).piece, .int .i64 (headE ⟨i, sa, sw⟩).side]] : Value) = (.tuple #[.int .i64 (sa), .agg #[.int .i64 i, .int .i64 0]])) := ⟨by simp [roomS, headE, h]⟩
    clear h
    go_enter Try.func156, Try.ntmps156
    go_wp2
    try rw [← HW.out]
    go_region
    all_goals
      try go_wp2
      refine bodyPost_ret (v := .tuple #[.int .i64 (sa), .agg #[.int .i64 i, .int .i64 0]]) (by simp [results, Try.results156, go_sem, x0, x1, xf0, xf1, hsz2]) rfl ⟨by rw [HV.out], ?_⟩
      repeat (first | (with_reducible exact Below.refl _ _) | (with_reducible exact fb.out) | (with_reducible refine below_drewN' ?_ _) | (with_reducible refine below_drew ?_) | (with_reducible refine below_set ?_ (by simp; done)) | (with_reducible refine below_set ?_ (by omega)) | (with_reducible refine below_alloc ?_ _))
set_option maxRecDepth 100000 in
set_option maxHeartbeats 1000000 in
theorem l3enter_any (n : NetT) (u : (Option Addr × Nat) × (Option Addr × Nat)) (x : EndT) (w : World) (hr : RdNet 67 w u n) (hp : 0 ≤ x.piece) (hl : x.piece < (n.pieces.length : Int)) :
    Calls Try.prog 143 #[.agg #[.slice u.1.1 n.pieces.length u.1.2, .slice u.2.1 n.joints.length u.2.2], .agg #[.int .i64 x.piece, .int .i64 x.side]] w fun e w' => e = .returned (.agg #[.int .i64 (enterS n x).piece, .int .i64 (enterS n x).at_, .int .i64 (enterS n x).way]) ∧ Below w.heap.size w w' := by
  have hm := hr.1.1.2.1
  obtain ⟨⟨A0, c0⟩, ⟨A1, c1⟩⟩ := u
  obtain ⟨sp, sd⟩ := x
  simp only at hp hl ⊢
  obtain ⟨i, hi⟩ := Int.eq_ofNat_of_zero_le hp
  subst hi
  have hlt : i < n.pieces.length := by omega
  obtain ⟨ad0, e0, y0, y1, y2, y3⟩ := at_Piece hr.1.1 i hlt
  simp only at e0
  subst e0
  clear hr hp y0 y2 y3
  obtain ⟨L, hL⟩ : ∃ L, L = (n.pieces.getD i default).len := ⟨_, rfl⟩
  rw [← hL] at y1
  have HL := Aside0.mk (show lenP n (i : Int) = L by unfold lenP; rw [Int.toNat_natCast, hL])
  clear hL
  obtain ⟨W0, hW0, hN, hS, fb0, hsz⟩ := box2 w [.slice (some ad0) n.pieces.length c0, .slice A1 n.joints.length c1] [.int .i64 i, .int .i64 sd] 35 67
  obtain ⟨W1, hW1⟩ : ∃ W1, W1 = W0.alloc (.cells #[.int .i64 0, .int .i64 0, .int .i64 0] 38) := ⟨_, rfl⟩
  have fb := Aside0.mk (show Below w.heap.size w W1 by rw [hW1]; exact below_alloc fb0 _)
  have hX : Bx W1 (w.heap.size + 2) [.int .i64 0, .int .i64 0, .int .i64 0] := by rw [hW1, ← hsz]; exact Bx.new W0 _ 38
  have hN1 := hN.alloc (.cells #[.int .i64 0, .int .i64 0, .int .i64 0] 38)
  have hS1 := hS.alloc (.cells #[.int .i64 0, .int .i64 0, .int .i64 0] 38)
  rw [← hW1] at hN1 hS1
  have n0 := hN1.c 0 _ rfl
  have m0 := hS1.c 0 _ rfl
  have m1 := hS1.c 1 _ rfl
  have x0 := hX.c 0 _ rfl
  have x1 := hX.c 1 _ rfl
  have x2 := hX.c 2 _ rfl
  have xf0 := hX.f 0
  have xf1 := hX.f 1
  have xf2 := hX.f 2
  have hsz2 := hX.lt
  replace y1 := pw_cell_below fb.out y1
  have HW := Aside0.mk (show W1 = ((w.alloc (.cells #[.slice (some ad0) n.pieces.length c0, .slice A1 n.joints.length c1] 35)).alloc (.cells #[.int .i64 i, .int .i64 sd] 67)).alloc (.cells #[.int .i64 0, .int .i64 0, .int .i64 0] 38) by rw [hW1, hW0])
  clear hW0 hW1 fb0 hN hS hN1 hS1 hX hsz
  by_cases h : sd = 0
  · subst h
    have HV : Aside0 ((Value.agg #[.int .i64 (enterS n ⟨i, 0⟩).piece, .int .i64 (enterS n ⟨i, 0⟩).at_, .int .i64 (enterS n ⟨i, 0⟩).way]) = .agg #[.int .i64 i, .int .i64 0, .int .i64 1]) := ⟨by unfold enterS; simp⟩
    go_enter Try.func143, Try.ntmps143
    go_wp2
    refine bodyPost_ret (v := .agg #[.int .i64 i, .int .i64 0, .int .i64 1]) (by simp [results, Try.results143, go_sem, x0, x1, x2, hsz2]) rfl ⟨by rw [HV.out], ?_⟩
    repeat (first | (with_reducible exact Below.refl _ _) | (with_reducible exact fb.out) | (with_reducible refine below_drewN' ?_ _) | (with_reducible refine below_drew ?_) | (with_reducible refine below_set ?_ (by simp; done)) | (with_reducible refine below_set ?_ (by omega)) | (with_reducible refine below_alloc ?_ _))
  · have h1 : (sd == 0) = false := by simpa using h
    have HV : Aside0 ((Value.agg #[.int .i64 (enterS n ⟨i, sd⟩).piece, .int .i64 (enterS n ⟨i, sd⟩).at_, .int .i64 (enterS n ⟨i, sd⟩).way]) = .agg #[.int .i64 i, .int .i64 L, .int .i64 (-1)]) := ⟨by unfold enterS; simp [h, HL.out]⟩
    clear h
    go_enter Try.func143, Try.ntmps143
    go_wp2
    try rw [← HW.out]
    go_region
    all_goals
      try go_wp2
      refine bodyPost_ret (v := .agg #[.int .i64 i, .int .i64 L, .int .i64 (-1)]) (by simp [results, Try.results143, go_sem, x0, x1, x2, hsz2]) rfl ⟨by rw [HV.out], ?_⟩
      repeat (first | (with_reducible exact Below.refl _ _) | (with_reducible exact fb.out) | (with_reducible refine below_drewN' ?_ _) | (with_reducible refine below_drew ?_) | (with_reducible refine below_set ?_ (by simp; done)) | (with_reducible refine below_set ?_ (by omega)) | (with_reducible refine below_alloc ?_ _))
set_option maxRecDepth 100000 in
set_option maxHeartbeats 1000000 in
theorem enter_any (n : NetT) (u : (Option Addr × Nat) × (Option Addr × Nat)) (x : EndT) (w : World) (hr : RdNet 67 w u n) (hp : 0 ≤ x.piece) (hl : x.piece < (n.pieces.length : Int)) :
    Calls Try.prog 141 #[.agg #[.slice u.1.1 n.pieces.length u.1.2, .slice u.2.1 n.joints.length u.2.2], .agg #[.int .i64 x.piece, .int .i64 x.side]] w fun e w' => e = .returned (.agg #[.int .i64 (enterS n x).piece, .int .i64 (enterS n x).at_, .int .i64 (enterS n x).way]) ∧ Below w.heap.size w w' := by
  have hm := hr.1.1.2.1
  obtain ⟨⟨A0, c0⟩, ⟨A1, c1⟩⟩ := u
  obtain ⟨sp, sd⟩ := x
  simp only at hp hl ⊢
  obtain ⟨i, hi⟩ := Int.eq_ofNat_of_zero_le hp
  subst hi
  have hlt : i < n.pieces.length := by omega
  obtain ⟨ad0, e0, y0, y1, y2, y3⟩ := at_Piece hr.1.1 i hlt
  simp only at e0
  subst e0
  clear hr hp y0 y2 y3
  obtain ⟨L, hL⟩ : ∃ L, L = (n.pieces.getD i default).len := ⟨_, rfl⟩
  rw [← hL] at y1
  have HL := Aside0.mk (show lenP n (i : Int) = L by unfold lenP; rw [Int.toNat_natCast, hL])
  clear hL
  obtain ⟨W0, hW0, hN, hS, fb0, hsz⟩ := box2 w [.slice (some ad0) n.pieces.length c0, .slice A1 n.joints.length c1] [.int .i64 i, .int .i64 sd] 35 67
  obtain ⟨W1, hW1⟩ : ∃ W1, W1 = W0.alloc (.cells #[.int .i64 0, .int .i64 0, .int .i64 0] 38) := ⟨_, rfl⟩
  have fb := Aside0.mk (show Below w.heap.size w W1 by rw [hW1]; exact below_alloc fb0 _)
  have hX : Bx W1 (w.heap.size + 2) [.int .i64 0, .int .i64 0, .int .i64 0] := by rw [hW1, ← hsz]; exact Bx.new W0 _ 38
  have hN1 := hN.alloc (.cells #[.int .i64 0, .int .i64 0, .int .i64 0] 38)
  have hS1 := hS.alloc (.cells #[.int .i64 0, .int .i64 0, .int .i64 0] 38)
  rw [← hW1] at hN1 hS1
  have n0 := hN1.c 0 _ rfl
  have m0 := hS1.c 0 _ rfl
  have m1 := hS1.c 1 _ rfl
  have x0 := hX.c 0 _ rfl
  have x1 := hX.c 1 _ rfl
  have x2 := hX.c 2 _ rfl
  have xf0 := hX.f 0
  have xf1 := hX.f 1
  have xf2 := hX.f 2
  have hsz2 := hX.lt
  replace y1 := pw_cell_below fb.out y1
  have HW := Aside0.mk (show W1 = ((w.alloc (.cells #[.slice (some ad0) n.pieces.length c0, .slice A1 n.joints.length c1] 35)).alloc (.cells #[.int .i64 i, .int .i64 sd] 67)).alloc (.cells #[.int .i64 0, .int .i64 0, .int .i64 0] 38) by rw [hW1, hW0])
  clear hW0 hW1 fb0 hN hS hN1 hS1 hX hsz
  by_cases h : sd = 0
  · subst h
    have HV : Aside0 ((Value.agg #[.int .i64 (enterS n ⟨i, 0⟩).piece, .int .i64 (enterS n ⟨i, 0⟩).at_, .int .i64 (enterS n ⟨i, 0⟩).way]) = .agg #[.int .i64 i, .int .i64 0, .int .i64 1]) := ⟨by unfold enterS; simp⟩
    go_enter Try.func141, Try.ntmps141
    go_wp2
    refine bodyPost_ret (v := .agg #[.int .i64 i, .int .i64 0, .int .i64 1]) (by simp [results, Try.results141, go_sem, x0, x1, x2, hsz2]) rfl ⟨by rw [HV.out], ?_⟩
    repeat (first | (with_reducible exact Below.refl _ _) | (with_reducible exact fb.out) | (with_reducible refine below_drewN' ?_ _) | (with_reducible refine below_drew ?_) | (with_reducible refine below_set ?_ (by simp; done)) | (with_reducible refine below_set ?_ (by omega)) | (with_reducible refine below_alloc ?_ _))
  · have h1 : (sd == 0) = false := by simpa using h
    have HV : Aside0 ((Value.agg #[.int .i64 (enterS n ⟨i, sd⟩).piece, .int .i64 (enterS n ⟨i, sd⟩).at_, .int .i64 (enterS n ⟨i, sd⟩).way]) = .agg #[.int .i64 i, .int .i64 L, .int .i64 (-1)]) := ⟨by unfold enterS; simp [h, HL.out]⟩
    clear h
    go_enter Try.func141, Try.ntmps141
    go_wp2
    try rw [← HW.out]
    go_region
    all_goals
      try go_wp2
      refine bodyPost_ret (v := .agg #[.int .i64 i, .int .i64 L, .int .i64 (-1)]) (by simp [results, Try.results141, go_sem, x0, x1, x2, hsz2]) rfl ⟨by rw [HV.out], ?_⟩
      repeat (first | (with_reducible exact Below.refl _ _) | (with_reducible exact fb.out) | (with_reducible refine below_drewN' ?_ _) | (with_reducible refine below_drew ?_) | (with_reducible refine below_set ?_ (by simp; done)) | (with_reducible refine below_set ?_ (by omega)) | (with_reducible refine below_alloc ?_ _))
end Go.Proofs.Ytckcffjnffcjcaa
