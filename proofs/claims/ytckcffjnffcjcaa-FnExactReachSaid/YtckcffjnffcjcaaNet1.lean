/- Contracts of the small functions on names, pieces and ends, of the reference and of the program. Conditions: what Go's own sizes give. -/
import Derived.Test.YtckcffjnffcjcaaParts
set_option linter.unusedVariables false
set_option linter.unusedSimpArgs false
namespace Go.Proofs.Ytckcffjnffcjcaa
open Go.RowKit Go.Proofs.YtckcffjnffcjcaaW.PrintWords
def nameByte (c : Int) : Bool := (decide (97 ≤ c) && decide (c ≤ 122)) || (decide (48 ≤ c) && decide (c ≤ 57)) || (c == 95)
/-- The bytes of a string, as numbers. -/
def bs (s : ByteArray) : List Int := s.data.toList.map (fun c => (c.toNat : Int))
theorem bs_length (s : ByteArray) : (bs s).length = s.size := by unfold bs; simp
theorem bs_get (s : ByteArray) (i : Nat) (h : i < s.size) : (bs s)[i]'(by rw [bs_length]; exact h) = ((s[i]'h).toNat : Int) := by unfold bs; simp; rfl
def nameOk (s : ByteArray) : Bool := (bs s).all nameByte && decide (1 ≤ s.size ∧ s.size ≤ 20)
theorem bs_getD (s : ByteArray) (i : Nat) (h : i < s.size) : ((s[i]'h).toNat : Int) = (bs s).getD i default := by
  rw [getD_at _ _ (by rw [bs_length]; exact h), bs_get s i h]
set_option maxRecDepth 100000 in
theorem l1name_any (s : ByteArray) (w : World) (hs : s.size ≤ 9223372036854775807) :
    Calls Try.prog 118 #[.string s] w fun e w' => e = .returned (.bool (nameOk s)) ∧ w' = w := by
  go_enter Try.func118, Try.ntmps118
  go_wp2
  go_loop [3] (fun v3 => ∃ i : Nat, v3 = .int .i64 i ∧ i ≤ s.size ∧ Aside0 (((bs s).take i).all nameByte = true)) (fun v3 => s.size - (intOf v3).toNat)
  case atStart => exact ⟨0, rfl, Nat.zero_le _, ⟨by simp⟩⟩
  case round =>
    obtain ⟨i, rfl, hi, HT⟩ := hrel
    by_cases hlt : i < s.size
    · have hb := bs_getD s i hlt
      have h0 : 0 ≤ ((s[i]'hlt).toNat : Int) := by omega
      obtain ⟨c, hc⟩ : ∃ c : Int, c = (bs s).getD i default := ⟨_, rfl⟩
      rw [← hc] at hb
      have HC := Aside0.mk hc
      clear hc
      go_wp2
      all_goals first
        | (go_round
           case rel =>
             refine ⟨i + 1, by go_num, by omega, ⟨all_step (by rw [bs_length]; exact hlt) HT.out ?_⟩⟩
             rw [← HC.out]; unfold nameByte; simp_all <;> omega
           case measure => simp [intOf]; omega)
        | (go_ret
           refine ⟨?_, rfl⟩
           have : nameOk s = false := by
             unfold nameOk
             rw [all_stop (i := i) (by rw [bs_length]; exact hlt) (by rw [← HC.out]; unfold nameByte; simp_all <;> omega)]; rfl
           rw [this]; rfl)
    · by_cases h1 : 1 ≤ s.size
      · go_wp2
        go_ret
        refine ⟨?_, rfl⟩
        have ha := HT.out
        rw [List.take_of_length_le (by rw [bs_length]; omega)] at ha
        have : nameOk s = decide ((s.size : Int) ≤ 20) := by unfold nameOk; rw [ha]; simp [h1]; omega
        rw [this]; rfl
      · have hd : decide ((1 : Int) ≤ (s.size : Int)) = false := by simp; omega
        go_wp2
        go_ret
        refine ⟨?_, rfl⟩
        have : nameOk s = false := by unfold nameOk; simp [h1]
        rw [this]; rfl
set_option maxRecDepth 100000 in
theorem named_any (s : ByteArray) (w : World) (hs : s.size ≤ 9223372036854775807) :
    Calls Try.prog 125 #[.string s] w fun e w' => e = .returned (.bool (nameOk s)) ∧ w' = w := by
  by_cases h1 : 1 ≤ s.size
  · by_cases h2 : s.size ≤ 20
    · go_enter Try.func125, Try.ntmps125
      go_wp2
      go_loop [3] (fun v3 => ∃ i : Nat, v3 = .int .i64 i ∧ i ≤ s.size ∧ Aside0 (((bs s).take i).all nameByte = true)) (fun v3 => s.size - (intOf v3).toNat)
      case atStart => exact ⟨0, rfl, Nat.zero_le _, ⟨by simp⟩⟩
      case round =>
        obtain ⟨i, rfl, hi, HT⟩ := hrel
        by_cases hlt : i < s.size
        · have hb := bs_getD s i hlt
          obtain ⟨c, hc⟩ : ∃ c : Int, c = (bs s).getD i default := ⟨_, rfl⟩
          rw [← hc] at hb
          have HC := Aside0.mk hc
          clear hc
          go_wp2
          all_goals first
            | (go_round
               case rel =>
                 refine ⟨i + 1, by go_num, by omega, ⟨all_step (by rw [bs_length]; exact hlt) HT.out ?_⟩⟩
                 rw [← HC.out]; unfold nameByte; simp_all <;> omega
               case measure => simp [intOf]; omega)
            | (go_ret
               refine ⟨?_, rfl⟩
               have : nameOk s = false := by
                 unfold nameOk
                 rw [all_stop (i := i) (by rw [bs_length]; exact hlt) (by rw [← HC.out]; unfold nameByte; simp_all <;> omega)]; rfl
               rw [this]; rfl)
        · go_wp2
          go_ret
          refine ⟨?_, rfl⟩
          have ha := HT.out
          rw [List.take_of_length_le (by rw [bs_length]; omega)] at ha
          have : nameOk s = true := by unfold nameOk; rw [ha]; simp [h1, h2]
          rw [this]; rfl
    · have hd : decide ((20 : Int) < (s.size : Int)) = true := by simp; omega
      go_enter Try.func125, Try.ntmps125
      go_wp2
      go_ret
      refine ⟨?_, rfl⟩
      have : nameOk s = false := by unfold nameOk; simp [h2]
      rw [this]; rfl
  · go_enter Try.func125, Try.ntmps125
    go_wp2
    go_ret
    refine ⟨?_, rfl⟩
    have : nameOk s = false := by unfold nameOk; simp [h1]
    rw [this]; rfl
def pieceB (p : PieceT) : Bool := nameOk p.name && inB p.len 1 10000000 && inB p.speed 1 10000 && inB p.brake 1 1000
set_option maxRecDepth 100000 in
theorem pieceOk_any (p : PieceT) (w : World) (hs : p.name.size ≤ 9223372036854775807) :
    Calls Try.prog 124 #[.agg #[.string p.name, .int .i64 p.len, .int .i64 p.speed, .int .i64 p.brake]] w
      fun e w' => e = .returned (.bool (pieceB p)) ∧ Below w.heap.size w w' := by
  cases hn : nameOk p.name with
  | false =>
    have HN := Aside0.mk hn
    go_enter Try.func124, Try.ntmps124
    go_wp2_with (go_at_call 125; refine (named_any _ _ hs).mono ?_; rintro e w3 ⟨rfl, rfl⟩)
    go_ret
    refine ⟨?_, below_alloc (Below.refl _ _) _⟩
    have : pieceB p = false := by unfold pieceB; rw [HN.out]; rfl
    rw [this]; rfl
  | true =>
    have HN := Aside0.mk hn
    go_enter Try.func124, Try.ntmps124
    go_wp2_with (go_at_call 125; refine (named_any _ _ hs).mono ?_; rintro e w3 ⟨rfl, rfl⟩)
    all_goals
      go_ret
      refine ⟨?_, below_alloc (Below.refl _ _) _⟩
      have : pieceB p = (inB p.len 1 10000000 && inB p.speed 1 10000 && inB p.brake 1 1000) := by unfold pieceB; rw [HN.out]; rfl
      rw [this]
      unfold inB
      simp_all <;> omega
def endB (n : NetT) (e : EndT) : Bool := inB e.piece 0 ((n.pieces.length : Int) - 1) && inB e.side 0 1
set_option maxRecDepth 100000 in
theorem l1end_any (n : NetT) (u : (Option Addr × Nat) × (Option Addr × Nat)) (x : EndT) (w : World) (hm : n.pieces.length ≤ 9223372036854775807) :
    Calls Try.prog 132 #[.agg #[.slice u.1.1 n.pieces.length u.1.2, .slice u.2.1 n.joints.length u.2.2], .agg #[.int .i64 x.piece, .int .i64 x.side]] w
      fun e w' => e = .returned (.bool (endB n x)) ∧ Below w.heap.size w w' := by
  cases h1 : inB x.piece 0 ((n.pieces.length : Int) - 1) with
  | false =>
    have H1 := Aside0.mk h1
    go_enter Try.func132, Try.ntmps132
    go_wp2_with (go_at_call 119; refine (l1in_any _ _ _ _).mono ?_; rintro e w3 ⟨rfl, rfl⟩)
    go_ret
    refine ⟨?_, below_two _ _ _⟩
    have : endB n x = false := by unfold endB; rw [H1.out]; rfl
    rw [this]; rfl
  | true =>
    have H1 := Aside0.mk h1
    go_enter Try.func132, Try.ntmps132
    go_wp2_with (go_at_call 119; refine (l1in_any _ _ _ _).mono ?_; rintro e w3 ⟨rfl, rfl⟩)
    go_ret
    refine ⟨?_, below_two _ _ _⟩
    have : endB n x = inB x.side 0 1 := by unfold endB; rw [H1.out]; rfl
    rw [this]; rfl
/-- All ends of the joints, in order. -/
def allEnds (n : NetT) : List EndT := n.joints.flatMap (·.ends)
/-- How often an end stands in joints. -/
def uses (n : NetT) (e : EndT) : Nat := (allEnds n).count e
theorem count_step {α : Type} [Inhabited α] [DecidableEq α] (l : List α) (i : Nat) (h : i < l.length) (e : α) : (l.take (i + 1)).count e = (l.take i).count e + if l.getD i default = e then 1 else 0 := by
  rw [take_getD l i h, List.count_append]
  congr 1
  by_cases he : l.getD i default = e
  · rw [if_pos he, he]; simp
  · rw [if_neg he]
    exact List.count_eq_zero.2 (by simpa using fun h => he h.symm)
theorem flat_step {α β : Type} [Inhabited α] (f : α → List β) (l : List α) (i : Nat) (h : i < l.length) : (l.take (i + 1)).flatMap f = (l.take i).flatMap f ++ f (l.getD i default) := by
  rw [take_getD l i h]; simp
set_option maxRecDepth 100000 in
theorem l1uses_any (n : NetT) (u : (Option Addr × Nat) × (Option Addr × Nat)) (x : EndT) (w : World) (hr : RdNet 67 w u n) (hb : (allEnds n).length ≤ 1048576) :
    Calls Try.prog 121 #[.agg #[.slice u.1.1 n.pieces.length u.1.2, .slice u.2.1 n.joints.length u.2.2], .agg #[.int .i64 x.piece, .int .i64 x.side]] w
      fun e w' => e = .returned (.int .i64 (uses n x)) ∧ Below w.heap.size w w' := by
  have hm := hr.2.1.2.1
  have HR := Aside0.mk hr.2.1
  clear hr
  obtain ⟨⟨A0, c0⟩, ⟨A1, c1⟩⟩ := u
  go_enter Try.func121, Try.ntmps121
  go_wp2
  obtain ⟨W0, hW0⟩ : ∃ W0 : World, W0 = (w.alloc (.cells #[.slice A0 n.pieces.length c0, .slice A1 n.joints.length c1] 35)).alloc (.cells #[.int .i64 x.piece, .int .i64 x.side] 67) := ⟨_, rfl⟩
  have f0 : W0.cell? ⟨w.heap.size + 1, 0, none⟩ = some (.int .i64 x.piece) := by rw [hW0]; go_simp
  have f1 : W0.cell? ⟨w.heap.size + 1, 1, none⟩ = some (.int .i64 x.side) := by rw [hW0]; go_simp
  have fs : w.heap.size + 1 < W0.heap.size := by rw [hW0]; simp
  have fb := Aside0.mk (show Below w.heap.size w W0 by rw [hW0]; exact below_two _ _ _)
  rw [← hW0]
  clear hW0
  go_loopw [5, 13] (fun v5 v13 wr => ∃ (i k : Nat), v13 = .int .i64 i ∧ i ≤ n.joints.length ∧ v5 = .int .i64 k ∧ k ≤ 1048576 ∧ Aside0 (k = ((n.joints.take i).flatMap (·.ends)).count x) ∧ Aside0 (Below W0.heap.size W0 wr)) (fun _ v13 _ => n.joints.length - (intOf v13).toNat)
  case atStart => exact ⟨0, 0, rfl, Nat.zero_le _, rfl, Nat.zero_le _, ⟨by simp⟩, ⟨Below.refl _ _⟩⟩
  case round =>
    obtain ⟨i, k, rfl, hi, rfl, hk, HT, HB⟩ := hrel
    by_cases hlt : i < n.joints.length
    · obtain ⟨ad0, B0, k0, e0, x0, x1, x2, m0, g0⟩ := at_Joint HR.out i hlt
      subst e0
      have HB2 := Aside0.mk (below_more fb.out HB.out)
      replace x0 := pw_cell_below HB2.out x0
      replace x1 := pw_cell_below HB2.out x1
      replace x2 := pw_cell_below HB2.out x2
      have HG := Aside0.mk g0
      have hgm := g0.2.1
      clear g0 m0
      obtain ⟨j, hj⟩ : ∃ j, j = n.joints.getD i default := ⟨_, rfl⟩
      have HS := Aside0.mk (flat_step (·.ends) n.joints i hlt)
      rw [← hj] at x0 x1 x2 HG HS hgm
      clear hj
      go_wp2
      have hT0 := Aside0.mk (Nat.le_trans (show k + (j.ends.take 0).count x ≤ k + 0 from by simp) (by omega : k + 0 ≤ 1048576))
      have HL := Aside0.mk (show ∀ q, k + (j.ends.take q).count x ≤ 1048576 from fun q => by
        have h1 := HT.out
        have h2 := HS.out
        have h3 : ((n.joints.take (i + 1)).flatMap (·.ends)).count x ≤ 1048576 := by
          refine Nat.le_trans (List.count_le_length ..) (Nat.le_trans ?_ hb)
          unfold allEnds
          conv => rhs; rw [← List.take_append_drop (i + 1) n.joints, List.flatMap_append, List.length_append]
          omega
        rw [h2, List.count_append] at h3
        have h4 : (j.ends.take q).count x ≤ j.ends.count x := (List.take_sublist _ _).count_le _
        omega)
      have HB3 := Aside0.mk (below_alloc HB.out (.cells #[.int .i64 j.kind, .string j.name, .slice B0 j.ends.length k0] 139))
      go_loopw [5, 20] (fun v5 v20 wq => ∃ (q k' : Nat), v20 = .int .i64 q ∧ q ≤ j.ends.length ∧ v5 = .int .i64 k' ∧ k' ≤ 1048576 ∧ Aside0 (k' = k + (j.ends.take q).count x) ∧ Aside0 (Below W0.heap.size W0 wq)) (fun _ v20 _ => j.ends.length - (intOf v20).toNat)
      case atStart => exact ⟨0, k, rfl, Nat.zero_le _, rfl, hk, ⟨by simp⟩, HB3⟩
      case round =>
        obtain ⟨q, k', rfl, hq, rfl, hk', HQ, HBq⟩ := hrel
        by_cases hqt : q < j.ends.length
        · obtain ⟨ad1, e1, y0, y1⟩ := at_End HG.out q hqt
          subst e1
          have HBw := Aside0.mk (below_more fb.out HBq.out)
          replace y0 := pw_cell_below HBw.out y0
          replace y1 := pw_cell_below HBw.out y1
          have z0 := pw_cell_below HBq.out f0
          have z1 := pw_cell_below HBq.out f1
          have fq := Nat.lt_of_lt_of_le fs HBq.out.size
          have HC := Aside0.mk (count_step j.ends q hqt x)
          have hk2 := HL.out (q + 1)
          obtain ⟨p, hp⟩ : ∃ p, p = j.ends.getD q default := ⟨_, rfl⟩
          rw [← hp] at y0 y1 HC
          clear hp
          have hk3 : p = x → k' + 1 ≤ 1048576 := fun h => by
            have h1 := HC.out
            rw [if_pos h] at h1
            have := HQ.out
            omega
          clear hk2
          have HK3 := Aside0.mk hk3
          clear hk3
          go_wp2
          all_goals first
            | (have hpx : p = x := EndT.ext_iff.1 ⟨by assumption, by assumption⟩
               have hk4 := HK3.out hpx
               have h1 := HC.out
               rw [if_pos hpx] at h1
               have HE := Aside0.mk h1
               clear hpx h1
               go_roundw
               case rel => exact ⟨q + 1, k' + 1, by go_num, by omega, by go_num, hk4, ⟨by have := HE.out; have := HQ.out; omega⟩, ⟨below_alloc HBq.out _⟩⟩
               case measure => simp [intOf]; omega)
            | (have hpx : p ≠ x := fun h => by subst h; first | exact absurd rfl ‹¬ p.piece = p.piece› | exact absurd rfl ‹¬ p.side = p.side›
               have h1 := HC.out
               rw [if_neg hpx] at h1
               have HE := Aside0.mk h1
               clear hpx h1
               go_roundw
               case rel => exact ⟨q + 1, k', by go_num, by omega, rfl, hk', ⟨by have := HE.out; have := HQ.out; omega⟩, ⟨below_alloc HBq.out _⟩⟩
               case measure => simp [intOf]; omega)
        · go_wp2
          go_roundw
          case rel => exact ⟨i + 1, k', by go_num, by omega, rfl, hk', ⟨by
            have h1 := HQ.out
            rw [List.take_of_length_le (by omega)] at h1
            rw [HS.out, List.count_append, ← HT.out, h1]⟩, HBq⟩
          case measure => simp [intOf]; omega
    · go_wp2
      go_ret
      refine ⟨?_, below_more fb.out HB.out⟩
      have ha := HT.out
      rw [List.take_of_length_le (by omega)] at ha
      unfold uses allEnds
      rw [← ha]; rfl
end Go.Proofs.Ytckcffjnffcjcaa
