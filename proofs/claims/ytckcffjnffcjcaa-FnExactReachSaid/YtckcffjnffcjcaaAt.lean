/- Contracts of l1at and at: where an end stands. No conditions but what Go's sizes give. -/
import Derived.Test.YtckcffjnffcjcaaGood
set_option linter.unusedVariables false
set_option linter.unusedSimpArgs false
namespace Go.Proofs.Ytckcffjnffcjcaa
open Go.RowKit Go.Proofs.YtckcffjnffcjcaaW.PrintWords
/-- The first place of an end. -/
def posOf (l : List EndT) (e : EndT) : Option Nat := (List.range l.length).find? (fun q => decide (l.getD q default = e))
/-- The first joint with the end, and the end's place there. -/
def atEnd (n : NetT) (e : EndT) : Int × Int :=
  match (List.range n.joints.length).find? (fun i => (posOf (n.joints.getD i default).ends e).isSome) with
  | some i => (i, ((posOf (n.joints.getD i default).ends e).getD 0 : Nat))
  | none => (-1, -1)
theorem atEnd_some {n : NetT} {e : EndT} {i q : Nat} (h : i < n.joints.length) (hq : posOf (n.joints.getD i default).ends e = some q) (hb : ∀ k, k < i → posOf (n.joints.getD k default).ends e = none) : atEnd n e = ((i : Int), (q : Int)) := by
  unfold atEnd
  rw [find_first (i := i) h (by rw [hq]; rfl) (fun k hk => by rw [hb k hk]; rfl)]
  simp only [hq, Option.getD_some]
theorem atEnd_none {n : NetT} {e : EndT} (hb : ∀ k, k < n.joints.length → posOf (n.joints.getD k default).ends e = none) : atEnd n e = (-1, -1) := by
  unfold atEnd
  rw [find_none (fun k hk => by rw [hb k hk]; rfl)]
theorem posOf_some {l : List EndT} {e : EndT} {q : Nat} (h : q < l.length) (he : l.getD q default = e) (hb : ∀ k, k < q → decide (l.getD k default = e) = false) : posOf l e = some q :=
  find_first h (decide_eq_true he) hb
theorem posOf_none {l : List EndT} {e : EndT} (hb : ∀ k, k < l.length → decide (l.getD k default = e) = false) : posOf l e = none := find_none hb
theorem posOf_is {l : List EndT} {e : EndT} {q : Nat} (h : posOf l e = some q) : q < l.length ∧ l.getD q default = e := by
  unfold posOf at h
  exact ⟨List.mem_range.1 (List.mem_of_find?_eq_some h), by simpa using List.find?_some h⟩
theorem posOf_not {l : List EndT} {e : EndT} (h : posOf l e = none) : e ∉ l := fun hm => by
  obtain ⟨i, hi, he⟩ := List.getElem_of_mem hm
  have := range_none h i hi
  rw [getD_at _ _ hi, he] at this
  simp at this
theorem atEnd_cases (n : NetT) (e : EndT) : (atEnd n e = (-1, -1) ∧ e ∉ allEnds n) ∨ ∃ i q : Nat, atEnd n e = ((i : Int), (q : Int)) ∧ i < n.joints.length ∧ q < (n.joints.getD i default).ends.length ∧ (n.joints.getD i default).ends.getD q default = e := by
  cases h : (List.range n.joints.length).find? (fun i => (posOf (n.joints.getD i default).ends e).isSome) with
  | none =>
    left
    have h1 := range_none h
    refine ⟨atEnd_none fun k hk => by have := h1 k hk; simpa using this, fun hm => ?_⟩
    unfold allEnds at hm
    obtain ⟨j, hj, he⟩ := List.mem_flatMap.1 hm
    obtain ⟨i, hi, hji⟩ := List.getElem_of_mem hj
    have := h1 i hi
    rw [getD_at _ _ hi, hji] at this
    exact posOf_not (by simpa using this) he
  | some i =>
    right
    have hi := List.mem_range.1 (List.mem_of_find?_eq_some h)
    have h2 := List.find?_some h
    obtain ⟨q, hq⟩ := Option.isSome_iff_exists.1 h2
    refine ⟨i, q, ?_, hi, (posOf_is hq).1, (posOf_is hq).2⟩
    unfold atEnd
    rw [h]
    simp only [hq, Option.getD_some]
set_option maxRecDepth 100000 in
theorem l1at_any (n : NetT) (u : (Option Addr × Nat) × (Option Addr × Nat)) (x : EndT) (w : World) (hr : RdNet 67 w u n) :
    Calls Try.prog 133 #[.agg #[.slice u.1.1 n.pieces.length u.1.2, .slice u.2.1 n.joints.length u.2.2], .agg #[.int .i64 x.piece, .int .i64 x.side]] w
      fun e w' => e = .returned (.tuple #[.int .i64 (atEnd n x).1, .int .i64 (atEnd n x).2]) ∧ Below w.heap.size w w' := by
  have hm := hr.2.1.2.1
  have HR := Aside0.mk hr.2.1
  clear hr
  obtain ⟨⟨A0, c0⟩, ⟨A1, c1⟩⟩ := u
  go_enter Try.func133, Try.ntmps133
  go_wp2
  obtain ⟨W0, hW0⟩ : ∃ W0 : World, W0 = (w.alloc (.cells #[.slice A0 n.pieces.length c0, .slice A1 n.joints.length c1] 35)).alloc (.cells #[.int .i64 x.piece, .int .i64 x.side] 67) := ⟨_, rfl⟩
  have f0 : W0.cell? ⟨w.heap.size + 1, 0, none⟩ = some (.int .i64 x.piece) := by rw [hW0]; go_simp
  have f1 : W0.cell? ⟨w.heap.size + 1, 1, none⟩ = some (.int .i64 x.side) := by rw [hW0]; go_simp
  have fs : w.heap.size + 1 < W0.heap.size := by rw [hW0]; simp
  have fb := Aside0.mk (show Below w.heap.size w W0 by rw [hW0]; exact below_two _ _ _)
  rw [← hW0]
  clear hW0
  go_loopw [13] (fun v13 wr => ∃ (i : Nat), v13 = .int .i64 i ∧ i ≤ n.joints.length ∧ Aside0 (∀ k, k < i → posOf (n.joints.getD k default).ends x = none) ∧ Aside0 (Below W0.heap.size W0 wr)) (fun v13 _ => n.joints.length - (intOf v13).toNat)
  case atStart => exact ⟨0, rfl, Nat.zero_le _, ⟨fun k hk => by omega⟩, ⟨Below.refl _ _⟩⟩
  case round =>
    obtain ⟨i, rfl, hi, HT, HB⟩ := hrel
    by_cases hlt : i < n.joints.length
    · obtain ⟨ad0, B0, k0, e0, x0, x1, x2, m0, g0⟩ := at_Joint HR.out i hlt
      subst e0
      have HB2 := Aside0.mk (below_more fb.out HB.out)
      replace x0 := pw_cell_below HB2.out x0
      replace x1 := pw_cell_below HB2.out x1
      replace x2 := pw_cell_below HB2.out x2
      have HG := Aside0.mk g0
      have hgm := g0.2.1
      clear g0 m0
      obtain ⟨j, hj⟩ : ∃ j, j = n.joints.getD i default := ⟨_, rfl⟩
      rw [← hj] at x0 x1 x2 HG hgm
      have HJ := Aside0.mk hj
      clear hj
      go_wp2
      have HB3 := Aside0.mk (below_alloc HB.out (.cells #[.int .i64 j.kind, .string j.name, .slice B0 j.ends.length k0] 139))
      go_loopw [21] (fun v21 wq => ∃ (q : Nat), v21 = .int .i64 q ∧ q ≤ j.ends.length ∧ Aside0 (∀ k, k < q → decide (j.ends.getD k default = x) = false) ∧ Aside0 (Below W0.heap.size W0 wq)) (fun v21 _ => j.ends.length - (intOf v21).toNat)
      case atStart => exact ⟨0, rfl, Nat.zero_le _, ⟨fun k hk => by omega⟩, HB3⟩
      case round =>
        obtain ⟨q, rfl, hq, HQ, HBq⟩ := hrel
        by_cases hqt : q < j.ends.length
        · obtain ⟨ad1, e1, y0, y1⟩ := at_End HG.out q hqt
          subst e1
          have HBw := Aside0.mk (below_more fb.out HBq.out)
          replace y0 := pw_cell_below HBw.out y0
          replace y1 := pw_cell_below HBw.out y1
          have z0 := pw_cell_below HBq.out f0
          have z1 := pw_cell_below HBq.out f1
          have fq := Nat.lt_of_lt_of_le fs HBq.out.size
          obtain ⟨p, hp⟩ : ∃ p, p = j.ends.getD q default := ⟨_, rfl⟩
          rw [← hp] at y0 y1
          have HP := Aside0.mk hp
          clear hp
          by_cases hpx : p = x
          · have HR2 := Aside0.mk (atEnd_some hlt (by rw [← HJ.out]; exact posOf_some hqt (by rw [← HP.out]; exact hpx) HQ.out) HT.out)
            subst hpx
            go_wp2
            all_goals first
              | (exfalso; simp_all; done)
              | (refine bodyPost_ret (v := .tuple #[.int .i64 i, .int .i64 q]) (by simp [results, Try.results133, go_sem]) rfl ⟨by rw [HR2.out], below_alloc HBw.out _⟩)
          · have HE := Aside0.mk (show decide (j.ends.getD q default = x) = false from decide_eq_false (by rw [← HP.out]; exact hpx))
            have hne : ¬ (p.piece = x.piece ∧ p.side = x.side) := fun h => hpx (EndT.ext_iff.1 h)
            clear hpx
            obtain ⟨pp, ps⟩ := p
            simp only at y0 y1 hne
            by_cases h1 : pp = x.piece
            · subst h1
              have hs : ps ≠ x.side := fun h => hne ⟨rfl, h⟩
              have b1 : (ps == x.side) = false := by simpa using hs
              have b2 : (x.side == ps) = false := by simpa using Ne.symm hs
              clear hs hne
              go_wp2
              go_roundw
              case rel => exact ⟨q + 1, by go_num, by omega, ⟨upto_step HQ.out HE.out⟩, ⟨below_alloc HBq.out _⟩⟩
              case measure => simp [intOf]; omega
            · have b1 : (pp == x.piece) = false := by simpa using h1
              have b2 : (x.piece == pp) = false := by simpa using Ne.symm h1
              clear h1 hne
              go_wp2
              go_roundw
              case rel => exact ⟨q + 1, by go_num, by omega, ⟨upto_step HQ.out HE.out⟩, ⟨below_alloc HBq.out _⟩⟩
              case measure => simp [intOf]; omega
        · have HE := Aside0.mk (show posOf (n.joints.getD i default).ends x = none from by rw [← HJ.out]; exact posOf_none (fun k hk => HQ.out k (by omega)))
          go_wp2
          go_roundw
          case rel => exact ⟨i + 1, by go_num, by omega, ⟨upto_step HT.out HE.out⟩, HBq⟩
          case measure => simp [intOf]; omega
    · have HE := Aside0.mk (atEnd_none (n := n) (e := x) (fun k hk => HT.out k (by omega)))
      go_wp2
      refine bodyPost_ret (v := .tuple #[.int .i64 (-1), .int .i64 (-1)]) (by simp [results, Try.results133, go_sem]) rfl ⟨by rw [HE.out], below_more fb.out HB.out⟩
set_option maxRecDepth 100000 in
theorem at_any (n : NetT) (u : (Option Addr × Nat) × (Option Addr × Nat)) (x : EndT) (w : World) (hr : RdNet 67 w u n) :
    Calls Try.prog 134 #[.agg #[.slice u.1.1 n.pieces.length u.1.2, .slice u.2.1 n.joints.length u.2.2], .agg #[.int .i64 x.piece, .int .i64 x.side]] w
      fun e w' => e = .returned (.tuple #[.int .i64 (atEnd n x).1, .int .i64 (atEnd n x).2]) ∧ Below w.heap.size w w' := by
  have hm := hr.2.1.2.1
  have HR := Aside0.mk hr.2.1
  clear hr
  obtain ⟨⟨A0, c0⟩, ⟨A1, c1⟩⟩ := u
  go_enter Try.func134, Try.ntmps134
  go_wp2
  obtain ⟨W0, hW0⟩ : ∃ W0 : World, W0 = (w.alloc (.cells #[.slice A0 n.pieces.length c0, .slice A1 n.joints.length c1] 35)).alloc (.cells #[.int .i64 x.piece, .int .i64 x.side] 67) := ⟨_, rfl⟩
  have f0 : W0.cell? ⟨w.heap.size + 1, 0, none⟩ = some (.int .i64 x.piece) := by rw [hW0]; go_simp
  have f1 : W0.cell? ⟨w.heap.size + 1, 1, none⟩ = some (.int .i64 x.side) := by rw [hW0]; go_simp
  have fs : w.heap.size + 1 < W0.heap.size := by rw [hW0]; simp
  have fb := Aside0.mk (show Below w.heap.size w W0 by rw [hW0]; exact below_two _ _ _)
  rw [← hW0]
  clear hW0
  go_loopw [13] (fun v13 wr => ∃ (i : Nat), v13 = .int .i64 i ∧ i ≤ n.joints.length ∧ Aside0 (∀ k, k < i → posOf (n.joints.getD k default).ends x = none) ∧ Aside0 (Below W0.heap.size W0 wr)) (fun v13 _ => n.joints.length - (intOf v13).toNat)
  case atStart => exact ⟨0, rfl, Nat.zero_le _, ⟨fun k hk => by omega⟩, ⟨Below.refl _ _⟩⟩
  case round =>
    obtain ⟨i, rfl, hi, HT, HB⟩ := hrel
    by_cases hlt : i < n.joints.length
    · obtain ⟨ad0, B0, k0, e0, x0, x1, x2, m0, g0⟩ := at_Joint HR.out i hlt
      subst e0
      have HB2 := Aside0.mk (below_more fb.out HB.out)
      replace x0 := pw_cell_below HB2.out x0
      replace x1 := pw_cell_below HB2.out x1
      replace x2 := pw_cell_below HB2.out x2
      have HG := Aside0.mk g0
      have hgm := g0.2.1
      clear g0 m0
      obtain ⟨j, hj⟩ : ∃ j, j = n.joints.getD i default := ⟨_, rfl⟩
      rw [← hj] at x0 x1 x2 HG hgm
      have HJ := Aside0.mk hj
      clear hj
      go_wp2
      have HB3 := Aside0.mk (below_alloc HB.out (.cells #[.int .i64 j.kind, .string j.name, .slice B0 j.ends.length k0] 139))
      go_loopw [21] (fun v21 wq => ∃ (q : Nat), v21 = .int .i64 q ∧ q ≤ j.ends.length ∧ Aside0 (∀ k, k < q → decide (j.ends.getD k default = x) = false) ∧ Aside0 (Below W0.heap.size W0 wq)) (fun v21 _ => j.ends.length - (intOf v21).toNat)
      case atStart => exact ⟨0, rfl, Nat.zero_le _, ⟨fun k hk => by omega⟩, HB3⟩
      case round =>
        obtain ⟨q, rfl, hq, HQ, HBq⟩ := hrel
        by_cases hqt : q < j.ends.length
        · obtain ⟨ad1, e1, y0, y1⟩ := at_End HG.out q hqt
          subst e1
          have HBw := Aside0.mk (below_more fb.out HBq.out)
          replace y0 := pw_cell_below HBw.out y0
          replace y1 := pw_cell_below HBw.out y1
          have z0 := pw_cell_below HBq.out f0
          have z1 := pw_cell_below HBq.out f1
          have fq := Nat.lt_of_lt_of_le fs HBq.out.size
          obtain ⟨p, hp⟩ : ∃ p, p = j.ends.getD q default := ⟨_, rfl⟩
          rw [← hp] at y0 y1
          have HP := Aside0.mk hp
          clear hp
          by_cases hpx : p = x
          · have HR2 := Aside0.mk (atEnd_some hlt (by rw [← HJ.out]; exact posOf_some hqt (by rw [← HP.out]; exact hpx) HQ.out) HT.out)
            subst hpx
            go_wp2
            all_goals first
              | (exfalso; simp_all; done)
              | (refine bodyPost_ret (v := .tuple #[.int .i64 i, .int .i64 q]) (by simp [results, Try.results134, go_sem]) rfl ⟨by rw [HR2.out], below_alloc HBw.out _⟩)
          · have HE := Aside0.mk (show decide (j.ends.getD q default = x) = false from decide_eq_false (by rw [← HP.out]; exact hpx))
            have hne : ¬ (p.piece = x.piece ∧ p.side = x.side) := fun h => hpx (EndT.ext_iff.1 h)
            clear hpx
            obtain ⟨pp, ps⟩ := p
            simp only at y0 y1 hne
            by_cases h1 : pp = x.piece
            · subst h1
              have hs : ps ≠ x.side := fun h => hne ⟨rfl, h⟩
              have b1 : (ps == x.side) = false := by simpa using hs
              have b2 : (x.side == ps) = false := by simpa using Ne.symm hs
              clear hs hne
              go_wp2
              go_roundw
              case rel => exact ⟨q + 1, by go_num, by omega, ⟨upto_step HQ.out HE.out⟩, ⟨below_alloc HBq.out _⟩⟩
              case measure => simp [intOf]; omega
            · have b1 : (pp == x.piece) = false := by simpa using h1
              have b2 : (x.piece == pp) = false := by simpa using Ne.symm h1
              clear h1 hne
              go_wp2
              go_roundw
              case rel => exact ⟨q + 1, by go_num, by omega, ⟨upto_step HQ.out HE.out⟩, ⟨below_alloc HBq.out _⟩⟩
              case measure => simp [intOf]; omega
        · have HE := Aside0.mk (show posOf (n.joints.getD i default).ends x = none from by rw [← HJ.out]; exact posOf_none (fun k hk => HQ.out k (by omega)))
          go_wp2
          go_roundw
          case rel => exact ⟨i + 1, by go_num, by omega, ⟨upto_step HT.out HE.out⟩, HBq⟩
          case measure => simp [intOf]; omega
    · have HE := Aside0.mk (atEnd_none (n := n) (e := x) (fun k hk => HT.out k (by omega)))
      go_wp2
      refine bodyPost_ret (v := .tuple #[.int .i64 (-1), .int .i64 (-1)]) (by simp [results, Try.results134, go_sem]) rfl ⟨by rw [HE.out], below_more fb.out HB.out⟩
end Go.Proofs.Ytckcffjnffcjcaa
