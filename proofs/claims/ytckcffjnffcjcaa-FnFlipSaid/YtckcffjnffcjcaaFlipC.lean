/- Contract of the laws' wFlip (a good net, a good spot, a piece of the net), and what FnFlip's walk needs of the flipped net. -/
import Derived.Test.YtckcffjnffcjcaaFlip
import Derived.Test.YtckcffjnffcjcaaGen6
import Derived.Test.YtckcffjnffcjcaaDr9
import Derived.Test.YtckcffjnffcjcaaLaws1
set_option linter.unusedVariables false
set_option linter.unusedSimpArgs false
namespace Go.Proofs.Ytckcffjnffcjcaa
open Go.RowKit Go.Proofs.YtckcffjnffcjcaaW.PrintWords
set_option maxRecDepth 100000 in
set_option maxHeartbeats 4000000 in
theorem wFlip_any (n : NetT) (u : (Option Addr × Nat) × (Option Addr × Nat)) (s : SpotT) (k : Int) (w : World) (hr : RdNet 67 w u n) (hg : Good n) (hs : spotB n s = true) (hk0 : 0 ≤ k) (hk1 : k < n.pieces.length) :
    Calls Try.prog 64 #[.agg #[.slice u.1.1 n.pieces.length u.1.2, .slice u.2.1 n.joints.length u.2.2], .agg #[.int .i64 s.piece, .int .i64 s.at_, .int .i64 s.way], .int .i64 k] w
      fun e w' => e = .returned (.agg #[.int .i64 (flipS n k s).piece, .int .i64 (flipS n k s).at_, .int .i64 (flipS n k s).way]) ∧ Below w.heap.size w w' := by
  obtain ⟨⟨A0, c0⟩, ⟨A1, c1⟩⟩ := u
  obtain ⟨kn, rfl⟩ := Int.eq_ofNat_of_zero_le hk0
  have hkn : kn < n.pieces.length := by omega
  obtain ⟨h0, h1, h2, h3, h4⟩ := spotB_iff.1 hs
  have hlen := hg.len h0 h1
  have hm0 := hr.1.1.2.1
  obtain ⟨ad0, e0, _, y1, _, _⟩ := at_Piece hr.1.1 kn hkn
  subst e0
  obtain ⟨L, hL⟩ : ∃ L, L = (n.pieces.getD kn default).len := ⟨_, rfl⟩
  have hL2 : lenP n (kn : Int) = L := by unfold lenP; rw [Int.toNat_natCast, hL]
  rw [← hL] at y1
  obtain ⟨sp, sa, sw⟩ := s
  simp only at h0 h1 h2 h3 h4 hlen ⊢
  obtain ⟨W3, hW3⟩ : ∃ W3 : World, W3 = ((w.alloc (.cells #[.slice (some ad0) n.pieces.length c0, .slice A1 n.joints.length c1] 35)).alloc (.cells #[.int .i64 sp, .int .i64 sa, .int .i64 sw] 38)).alloc (.cells #[.int .i64 0, .int .i64 0, .int .i64 0] 38) := ⟨_, rfl⟩
  have B3 : Aside0 (Below w.heap.size w W3) := ⟨by rw [hW3]; exact below_three _ _ _ _⟩
  have N3 : Aside0 (Bx W3 w.heap.size [.slice (some ad0) n.pieces.length c0, .slice A1 n.joints.length c1]) := ⟨by rw [hW3]; exact ((Bx.new w [.slice (some ad0) n.pieces.length c0, .slice A1 n.joints.length c1] 35).alloc _).alloc _⟩
  have S3 : Aside0 (Bx W3 (w.heap.size + 1) [.int .i64 sp, .int .i64 sa, .int .i64 sw]) := ⟨by
    have := (Bx.new (w.alloc (.cells #[.slice (some ad0) n.pieces.length c0, .slice A1 n.joints.length c1] 35)) [.int .i64 sp, .int .i64 sa, .int .i64 sw] 38).alloc (.cells #[.int .i64 0, .int .i64 0, .int .i64 0] 38)
    rw [hW3]; simpa using this⟩
  have Z3 : Aside0 (Bx W3 (w.heap.size + 1 + 1) [.int .i64 0, .int .i64 0, .int .i64 0]) := ⟨by
    have := Bx.new ((w.alloc (.cells #[.slice (some ad0) n.pieces.length c0, .slice A1 n.joints.length c1] 35)).alloc (.cells #[.int .i64 sp, .int .i64 sa, .int .i64 sw] 38)) [.int .i64 0, .int .i64 0, .int .i64 0] 38
    rw [hW3]; simpa using this⟩
  replace y1 := pw_cell_below B3.out y1
  have HW3 := Aside0.mk hW3
  have n0 := N3.out.c 0 _ rfl
  have s0 := S3.out.c 0 _ rfl; have s1 := S3.out.c 1 _ rfl; have s2 := S3.out.c 2 _ rfl
  have sf1 := S3.out.f 1; have sf2 := S3.out.f 2; have slt := S3.out.lt
  have z0 := Z3.out.c 0 _ rfl; have z1 := Z3.out.c 1 _ rfl; have z2 := Z3.out.c 2 _ rfl
  have zf0 := Z3.out.f 0; have zf1 := Z3.out.f 1; have zf2 := Z3.out.f 2; have zlt := Z3.out.lt
  have hi0 : (0 : Int) ≤ (kn : Int) := hk0
  have hi1 : (kn : Int) < (n.pieces.length : Int) := hk1
  clear hW3 hr hg hs
  by_cases hp : sp = (kn : Int)
  · subst hp
    have e1 : flipS n (kn : Int) ⟨(kn : Int), sa, sw⟩ = ⟨(kn : Int), L - sa, -sw⟩ := by unfold flipS; rw [if_pos rfl, hL2]
    rw [hL2] at h4 hlen
    have hw1 : IntKind.i64.wrap (L - sa) = L - sa := wrap64 (by omega) (by omega)
    have hw2 : IntKind.i64.wrap (-sw) = -sw := wrap64 (by omega) (by omega)
    rw [e1]
    clear e1 hL hL2 h0 h1 h2 h3 h4 hlen hk0 hk1
    go_enter Try.func64, Try.ntmps64
    go_wp2_with fail
    rw [← HW3.out]
    go_region
    all_goals
      go_wp2_with fail
      refine bodyPost_ret (v := .agg #[.int .i64 (kn : Int), .int .i64 (L - sa), .int .i64 (-sw)]) (by simp [results, Try.results64, go_sem, z0, z1, z2, zf0, zf1, zf2, zlt]) rfl ⟨rfl, ?_⟩
      repeat (first | exact B3.out | (refine below_set ?_ (by omega)) | (refine below_drew ?_))
  · have e1 : flipS n (kn : Int) ⟨sp, sa, sw⟩ = ⟨sp, sa, sw⟩ := by unfold flipS; rw [if_neg hp]
    have hd : (sp == (kn : Int)) = false := by simpa using hp
    rw [e1]
    clear e1 hL hL2 h0 h1 h2 h3 h4 hlen hk0 hk1 hp
    go_enter Try.func64, Try.ntmps64
    go_wp2_with fail
    exact bodyPost_ret (v := .agg #[.int .i64 sp, .int .i64 sa, .int .i64 sw]) (by simp [results, Try.results64, go_sem]) rfl ⟨rfl, below_three _ _ _ _⟩
theorem sides_good {n : NetT} (hg : Good n) : ∀ j ∈ n.joints, ∀ e ∈ j.ends, e.side = 0 ∨ e.side = 1 := by
  intro j hj e he
  obtain ⟨i, hi, rfl⟩ := List.mem_iff_getElem.1 hj
  have h := hg.jc3 i hi
  rw [getD_at n.joints i hi] at h
  cases hb : endB n e with
  | true => have := endB_iff.1 hb; omega
  | false =>
    exfalso
    obtain ⟨q, hq, rfl⟩ := List.mem_iff_getElem.1 he
    have := j3_end (n := n) (j := n.joints[i]) hq (by rw [getD_at _ q hq]; exact hb)
    rw [this] at h
    cases h
theorem flip_fits {n : NetT} (h : NetFits n) (k : Int) : NetFits (flipN n k) := by
  refine ⟨h.p, by rw [flip_joints_length]; exact h.j, fun x hx => ?_, by rw [flip_allEnds, List.length_map]; exact h.all, h.pn, fun x hx => ?_⟩
  · obtain ⟨y, hy, rfl⟩ := List.mem_map.1 hx
    rw [flip_ends_length]; exact h.e y hy
  · obtain ⟨y, hy, rfl⟩ := List.mem_map.1 hx
    exact h.jn y hy
theorem implDriveF (n : NetT) (k : Int) (u : (Option Addr × Nat) × (Option Addr × Nat)) (v : Option Addr × Nat) (lies : List Int) (s : SpotT) (left : Int) (w : World) (hr : RdNet 67 w u (flipN n k)) (hl : Kd.C (Kd.int .i64) w v.1 lies.length lies) (hf : NetFits n) :
    Calls Try.prog 37 #[.agg #[.slice u.1.1 n.pieces.length u.1.2, .slice u.2.1 n.joints.length u.2.2], .slice v.1 lies.length v.2, .agg #[.int .i64 s.piece, .int .i64 s.at_, .int .i64 s.way], .int .i64 left] w
      fun e w' => e = .returned (drvV (driveR (flipN n k) lies s left)) ∧ Below w.heap.size w w' := by
  have := implDrive_any (flipN n k) u v lies s left w hr hl (flip_fits hf k)
  rw [flip_joints_length] at this
  exact this
end Go.Proofs.Ytckcffjnffcjcaa
