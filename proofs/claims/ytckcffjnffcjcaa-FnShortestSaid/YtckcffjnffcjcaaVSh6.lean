/- Texts of this work, of each what the claim leans on: DrvLoop, Dr5, Dr6, Laws1, Gen6, Clo, Over2. No conditions. -/
import Derived.Test.YtckcffjnffcjcaaVSh5
set_option linter.unusedVariables false
set_option linter.unusedSimpArgs false
namespace Go.Proofs.Ytckcffjnffcjcaa
open Go.RowKit Go.Proofs.YtckcffjnffcjcaaW.PrintWords
variable {n : NetT} {lies : List Int} {s : SpotT} {left : Int}
structure DI (n : NetT) (lies : List Int) (s : SpotT) (left : Int) (r : Nat) (far : Int) (t : SpotT) (ps : List PartT) : Prop where
  spot : spotB n t = true
  r1 : r ≤ 1000
  f0 : 0 ≤ far
  f1 : far ≤ left
  eq : drv n lies 1000 s left = (drv n lies (1000 - r) t (left - far)).behind far ps
  few : ps.length ≤ r + 1
  tight : ps.length = r + 1 → roomS n t = 0 ∨ far = left
theorem DI.start (hs : spotB n s = true) (h0 : 0 ≤ left) : DI n lies s left 0 0 s [] := by
  refine ⟨hs, by omega, by omega, h0, ?_, by simp, fun h => by simp at h⟩
  rw [behind_none, Int.sub_zero]
theorem behind_mk (c f : Int) (j : Int) (t : SpotT) (g : Int) (ps : List PartT) : (DrvT.mk c f j t []).behind g ps = ⟨c, g + f, j, t, ps⟩ := by unfold DrvT.behind; simp
theorem DI.full (hg : Good n) {r : Nat} {far : Int} {t : SpotT} {ps : List PartT} (h : DI n lies s left r far t ps) (hf : far < left) (hr : roomS n t = 0) (hc : (overL n lies (headE t)).1 = 0) (hk : r = 1000) :
    drv n lies 1000 s left = ⟨5, far, (atEnd n (headE t)).1, t, ps⟩ := by
  rw [h.eq, drv_joint hr (by omega), if_neg (by omega), hk]
  exact (behind_mk ..).trans (by rw [Int.add_zero])
theorem DI.joint (hg : Good n) (hl : liesB n lies = true) {r : Nat} {far : Int} {t : SpotT} {ps : List PartT} (h : DI n lies s left r far t ps) (hf : far < left) (hr : roomS n t = 0) (hc : (overL n lies (headE t)).1 = 0) (hk : r ≠ 1000) :
    DI n lies s left (r + 1) far (enterS n (overL n lies (headE t)).2) ps := by
  have hr1 := h.r1
  have hov := hg.over hl (headE_ok h.spot) hc
  have hac := hg.across (headE_ok h.spot) hov
  refine ⟨enterS_ok hg hac.1, by omega, h.f0, h.f1, ?_, by have := h.few; omega, fun h2 => by have := h.few; omega⟩
  rw [h.eq, drv_joint hr (by omega), if_neg (by omega), show 1000 - r = (1000 - (r + 1)) + 1 by omega]
structure DJ (n : NetT) (lies : List Int) (s : SpotT) (left : Int) (r : Nat) (far : Int) (t : SpotT) (ps : List PartT) : Prop where
  spot : spotB n t = true
  r1 : r ≤ 1000
  f0 : 0 ≤ far
  f1 : far ≤ left
  eq : drv n lies 1000 s left = (drv n lies (1000 - r) t (left - far)).behind far ps
  few : ps.length ≤ r
theorem DJ.start (hs : spotB n s = true) (h0 : 0 ≤ left) : DJ n lies s left 0 0 s [] := by
  refine ⟨hs, by omega, by omega, h0, ?_, by simp⟩
  rw [behind_none, Int.sub_zero]
section
variable {r : Nat} {far : Int} {t : SpotT} {ps : List PartT}
theorem partsOf_len (t : SpotT) (x : Int) : (partsOf t x).length ≤ 1 := by unfold partsOf; split <;> simp
theorem DJ.leg (hg : Good n) (h : DJ n lies s left r far t ps) : 0 ≤ legOf n t (left - far) ∧ legOf n t (left - far) ≤ roomS n t ∧ legOf n t (left - far) ≤ left - far ∧ (ps ++ partsOf t (legOf n t (left - far))).length ≤ 1001 := by
  have h1 := h.f1
  have hb := legOf_bd hg h.spot (left := left - far) (by omega)
  have := partsOf_len t (legOf n t (left - far))
  have h2 := h.few
  have h3 := h.r1
  refine ⟨hb.1, hb.2.1, hb.2.2, by rw [List.length_append]; omega⟩
theorem DJ.done (h : DJ n lies s left r far t ps) (hf : left - far - legOf n t (left - far) = 0) :
    drv n lies 1000 s left = ⟨0, far + legOf n t (left - far), -1, moveS t (legOf n t (left - far)), ps ++ partsOf t (legOf n t (left - far))⟩ := by
  have hst : stopAt n lies t (left - far) = some (0, -1) := by unfold stopAt; rw [if_pos hf]
  rw [h.eq, drv_stop hst]; rfl
theorem DJ.stop (h : DJ n lies s left r far t ps) (hf : left - far - legOf n t (left - far) ≠ 0) (hc : (overL n lies (headE t)).1 ≠ 0) :
    drv n lies 1000 s left = ⟨(overL n lies (headE t)).1, far + legOf n t (left - far), (atEnd n (headE t)).1, moveS t (legOf n t (left - far)), ps ++ partsOf t (legOf n t (left - far))⟩ := by
  have hst : stopAt n lies t (left - far) = some ((overL n lies (headE t)).1, (atEnd n (headE t)).1) := by unfold stopAt; rw [if_neg hf, if_pos hc]
  rw [h.eq, drv_stop hst]; rfl
theorem DJ.full (h : DJ n lies s left r far t ps) (hf : left - far - legOf n t (left - far) ≠ 0) (hc : (overL n lies (headE t)).1 = 0) (hk : r = 1000) :
    drv n lies 1000 s left = ⟨5, far + legOf n t (left - far), (atEnd n (headE t)).1, moveS t (legOf n t (left - far)), ps ++ partsOf t (legOf n t (left - far))⟩ := by
  have hst : stopAt n lies t (left - far) = none := by unfold stopAt; rw [if_neg hf, if_neg (by omega)]
  rw [h.eq, hk]
  show (drv n lies 0 t (left - far)).behind far ps = _
  rw [drv_full hst]; rfl
theorem DJ.joint (hg : Good n) (hl : liesB n lies = true) (h : DJ n lies s left r far t ps) (hf : left - far - legOf n t (left - far) ≠ 0) (hc : (overL n lies (headE t)).1 = 0) (hk : r ≠ 1000) :
    DJ n lies s left (r + 1) (far + legOf n t (left - far)) (enterS n (overL n lies (headE t)).2) (ps ++ partsOf t (legOf n t (left - far))) := by
  have hst : stopAt n lies t (left - far) = none := by unfold stopAt; rw [if_neg hf, if_neg (by omega)]
  have hr1 := h.r1
  have hov := hg.over hl (headE_ok h.spot) hc
  have hac := hg.across (headE_ok h.spot) hov
  have hb := legOf_bd hg h.spot (left := left - far) (by have := h.f1; omega)
  refine ⟨enterS_ok hg hac.1, by omega, by have := h.f0; omega, by omega, ?_, by have := partsOf_len t (legOf n t (left - far)); have := h.few; rw [List.length_append]; omega⟩
  rw [h.eq, show 1000 - r = (1000 - (r + 1)) + 1 by omega, drv_on hst]
  unfold DrvT.behind
  simp only [DrvT.mk.injEq, true_and, List.append_assoc]
  rw [show left - far - legOf n t (left - far) = left - (far + legOf n t (left - far)) by omega]
  simp [Int.add_assoc]
end
end Go.Proofs.Ytckcffjnffcjcaa
namespace Go.Proofs.Ytckcffjnffcjcaa
open Go.RowKit Go.Proofs.YtckcffjnffcjcaaW.PrintWords
theorem Bx.under {W w1 : World} {base b : Nat} {vs : List Value} (h : Bx W b vs) (hb : Below base W w1) (hlt : b < base) : Bx w1 b vs :=
  ⟨Nat.lt_of_lt_of_le h.lt hb.size, fun i v hv => (hb.cell (p := ⟨b, i, none⟩) hlt).trans (h.c i v hv), fun i => (hb.frozen (p := ⟨b, i, none⟩) hlt).trans (h.f i)⟩
theorem below_lower {a b : Nat} {w w1 w2 : World} (h : Below a w w1) (k : Below b w1 w2) (hab : a ≤ b) : Below a w w2 :=
  h.trans ⟨k.os, k.tape, k.output, k.size, fun i hi => k.block i (Nat.lt_of_lt_of_le hi hab)⟩
def drvV (d : DrvT) : Value := .agg #[.int .i64 d.code, .int .i64 d.far, .int .i64 d.joint, .int .i64 d.spot.piece, .int .i64 d.spot.at_, .int .i64 d.spot.way]
theorem box4 (w : World) (a b c d : List Value) (s t r q : TypeId) : ∃ W0, W0 = (((w.alloc (.cells a.toArray s)).alloc (.cells b.toArray t)).alloc (.cells c.toArray r)).alloc (.cells d.toArray q) ∧ Bx W0 w.heap.size a ∧ Bx W0 (w.heap.size + 1) b ∧ Bx W0 (w.heap.size + 1 + 1) c ∧ Bx W0 (w.heap.size + 1 + 1 + 1) d ∧ Below w.heap.size w W0 ∧ W0.heap.size = w.heap.size + 1 + 1 + 1 + 1 := by
  obtain ⟨W0, h0, hN, hS, hX, fb⟩ := box3 w a b c s t r
  have hz : W0.heap.size = w.heap.size + 1 + 1 + 1 := by rw [h0]; simp
  refine ⟨_, rfl, ?_, ?_, ?_, ?_, ?_, ?_⟩
  · rw [← h0]; exact hN.alloc _
  · rw [← h0]; exact hS.alloc _
  · rw [← h0]; exact hX.alloc _
  · rw [← h0]; exact Bx.new' _ _ _ hz.symm
  · rw [← h0]; exact below_alloc fb _
  · rw [← h0]; simp [hz]
end Go.Proofs.Ytckcffjnffcjcaa
namespace Go.Proofs.Ytckcffjnffcjcaa
open Go.RowKit Go.Proofs.YtckcffjnffcjcaaW.PrintWords
def driveR (n : NetT) (lies : List Int) (s : SpotT) (left : Int) : DrvT := if goB n lies s left = true then drv n lies 1000 s left else ⟨4, 0, 0, ⟨0, 0, 0⟩, []⟩
theorem driveR_bad {n : NetT} {lies : List Int} {s : SpotT} {left : Int} (h : goB n lies s left = false) : driveR n lies s left = ⟨4, 0, 0, ⟨0, 0, 0⟩, []⟩ := by unfold driveR; rw [h]; rfl
theorem driveR_good {n : NetT} {lies : List Int} {s : SpotT} {left : Int} (h : goB n lies s left = true) : driveR n lies s left = drv n lies 1000 s left := by unfold driveR; rw [h]; rfl
theorem goB_is {n : NetT} {lies : List Int} {s : SpotT} {left : Int} (h : goB n lies s left = true) : Good n ∧ liesB n lies = true ∧ spotB n s = true ∧ 0 ≤ left ∧ left ≤ 1000000 := by
  unfold goB at h
  simp only [Bool.and_eq_true, inB_true] at h
  obtain ⟨⟨⟨h1, h2⟩, h3⟩, h4, h5⟩ := h
  exact ⟨Good.of h1, h2, h3, h4, h5⟩
end Go.Proofs.Ytckcffjnffcjcaa
namespace Go.Proofs.Ytckcffjnffcjcaa
open Go.RowKit Go.Proofs.YtckcffjnffcjcaaW.PrintWords
def byteV (code : List Int) (i : Nat) : Int := if code.length = 0 then 0 else code.getD (i % code.length) 0
def wholeV (code : List Int) (i : Nat) : Int := (byteV code i + 256 * byteV code (i + 1)) % (1 + 40 * byteV code (i + 2))
theorem byteV_bd {code : List Int} (h : GCode code) (i : Nat) : 0 ≤ byteV code i ∧ byteV code i ≤ 255 := by
  unfold byteV
  split
  · omega
  · rename_i hn
    have hk : i % code.length < code.length := Nat.mod_lt _ (by omega)
    have e : code.getD (i % code.length) 0 = code[i % code.length] := by rw [List.getD_eq_getElem?_getD, List.getElem?_eq_getElem hk]; rfl
    rw [e]
    exact h _ (List.getElem_mem hk)
section
variable {n : NetT} {lies : List Int} {s : SpotT}
theorem goB_mk (hg : netGood n = true) (hl : liesB n lies = true) (hs : spotB n s = true) {a : Int} (h0 : 0 ≤ a) (h1 : a ≤ 1000000) : goB n lies s a = true := by
  unfold goB
  rw [hg, hl, hs]
  simp [h0, h1, inB]
theorem driveR_is (hg : netGood n = true) (hl : liesB n lies = true) (hs : spotB n s = true) {a : Int} (h0 : 0 ≤ a) (h1 : a ≤ 1000000) : driveR n lies s a = drv n lies 1000 s a := driveR_good (goB_mk hg hl hs h0 h1)
theorem top_far (hg : netGood n = true) (hl : liesB n lies = true) (hs : spotB n s = true) {a : Int} (h0 : 0 ≤ a) (h1 : a ≤ 1000000) (hc : (driveR n lies s a).code = 0) :
    (driveR n lies s a).far = a ∧ spotB n (driveR n lies s a).spot = true := by
  rw [driveR_is hg hl hs h0 h1] at *
  exact ⟨drv_far 1000 s a hc, (drv_spot (Good.of hg) hl 1000 s a hs h0).1⟩
theorem partsOk_mk {l : List PartT} (h : ∀ p ∈ l, 0 ≤ p.piece ∧ p.piece ≤ 99 ∧ 0 ≤ p.frm ∧ p.frm ≤ p.upto ∧ p.upto ≤ 10000000) (hl : l.length ≤ 10000) : partsOk l = true := by
  unfold partsOk
  simp only [Bool.and_eq_true, decide_eq_true_eq, List.all_eq_true]
  refine ⟨fun p hp => ?_, hl⟩
  have := h p hp
  unfold partOk
  simp only [Bool.and_eq_true, inB_true]
  omega
end
end Go.Proofs.Ytckcffjnffcjcaa
namespace Go.Proofs.Ytckcffjnffcjcaa
open Go.RowKit Go.Proofs.YtckcffjnffcjcaaW.PrintWords
set_option maxRecDepth 100000 in
theorem wByte_any (code : List Int) (A : Option Addr) (c i : Nat) (m : Int) (w : World) (hr : Kd.C (Kd.int .u8) w A code.length code) (hg : GCode code) (hm : m = (i : Int)) (hi : i ≤ 1000000) (hl : code.length ≤ 1048576) :
    Calls Try.prog 62 #[.slice A code.length c, .int .i64 m] w fun e w' => e = .returned (.int .i64 (byteV code i)) ∧ w = w' := by
  subst hm
  have hb := byteV_bd hg i
  by_cases h0 : code.length = 0
  · have hz : ((code.length : Int) == 0) = true := by simp [h0]
    have HV : Aside0 (byteV code i = 0) := ⟨by unfold byteV; rw [if_pos h0]⟩
    have hz2 : decide (code.length = 0) = true := by simp [h0]
    have HH := Aside0.mk h0
    clear h0 hr
    go_enter Try.func62, Try.ntmps62
    go_wp2
    go_ret
    exact ⟨by rw [HV.out]; rfl, rfl⟩
  · have hz : ((code.length : Int) == 0) = false := by rw [beq_eq_false_iff_ne]; omega
    have hz2 : decide (code.length = 0) = false := decide_eq_false (by omega)
    have hk : i % code.length < code.length := Nat.mod_lt _ (by omega)
    have HV : Aside0 (byteV code i = code.getD (i % code.length) 0) := ⟨by unfold byteV; rw [if_neg h0]⟩
    rw [HV.out] at hb
    obtain ⟨ad0, e0, y0⟩ := at_Byte hr (i % code.length) hk
    subst e0
    obtain ⟨q, hq⟩ : ∃ q, q = code.getD (i % code.length) 0 := ⟨_, rfl⟩
    rw [← hq] at y0 hb HV
    obtain ⟨k, hkk⟩ : ∃ k, k = i % code.length := ⟨_, rfl⟩
    rw [← hkk] at y0 hk
    have hkm : (i : Int) % (code.length : Int) = (k : Int) := by rw [hkk]; simp
    have hk0 : (0 : Int) ≤ (k : Int) := by omega
    have hk1 : (k : Int) < (code.length : Int) := by omega
    clear hr hq hkk
    have hp : (0 : Int) < (code.length : Int) := by omega
    go_enter Try.func62, Try.ntmps62
    go_wp2
    go_ret
    exact ⟨by rw [HV.out]; rfl, rfl⟩
set_option maxRecDepth 100000 in
theorem wWhole_any (code : List Int) (A : Option Addr) (c i : Nat) (m : Int) (w : World) (hr : Kd.C (Kd.int .u8) w A code.length code) (hg : GCode code) (hm : m = (i : Int)) (hi : i ≤ 900000) (hl : code.length ≤ 1048576) :
    Calls Try.prog 36 #[.slice A code.length c, .int .i64 m] w fun e w' => e = .returned (.int .i64 (wholeV code i)) ∧ w = w' := by
  subst hm
  have b0 := byteV_bd hg i
  have b1 := byteV_bd hg (i + 1)
  have b2 := byteV_bd hg (i + 2)
  have HV : Aside0 (wholeV code i = (byteV code i + 256 * byteV code (i + 1)) % (1 + 40 * byteV code (i + 2))) := ⟨rfl⟩
  obtain ⟨q0, h0⟩ : ∃ q, q = byteV code i := ⟨_, rfl⟩
  obtain ⟨q1, h1⟩ : ∃ q, q = byteV code (i + 1) := ⟨_, rfl⟩
  obtain ⟨q2, h2⟩ : ∃ q, q = byteV code (i + 2) := ⟨_, rfl⟩
  rw [← h0, ← h1, ← h2] at HV
  rw [← h0] at b0
  rw [← h1] at b1
  rw [← h2] at b2
  have Q0 := Aside0.mk h0
  have Q1 := Aside0.mk h1
  have Q2 := Aside0.mk h2
  have HR := Aside0.mk hr
  clear h0 h1 h2 hr
  go_enter Try.func36, Try.ntmps36
  go_wp2_with fail
  refine (wByte_any code A c i _ _ HR.out hg rfl (by omega) hl).mono ?_
  rintro e w1 ⟨rfl, rfl⟩
  rw [← Q0.out]
  go_wp2_with fail
  refine (wByte_any code A c (i + 1) _ _ HR.out hg (by omega) (by omega) hl).mono ?_
  rintro e w1 ⟨rfl, rfl⟩
  rw [← Q1.out]
  go_wp2_with fail
  refine (wByte_any code A c (i + 2) _ _ HR.out hg (by omega) (by omega) hl).mono ?_
  rintro e w1 ⟨rfl, rfl⟩
  rw [← Q2.out]
  go_wp2_with fail
  go_ret
  exact ⟨by rw [HV.out]; rfl, rfl⟩
set_option maxRecDepth 100000 in
set_option maxHeartbeats 2000000 in
theorem wParts_same (l : List PartT) (A0 : Option Addr) (c0 : Nat) (A1 : Option Addr) (c1 : Nat) (w : World) (hr0 : Kd.C kPart w A0 l.length l) (hr1 : Kd.C kPart w A1 l.length l) :
    Calls Try.prog 69 #[.slice A0 l.length c0, .slice A1 l.length c1] w fun e w' => e = .returned (.bool true) ∧ Below w.heap.size w w' := by
  have hm := hr0.2.1
  have H0 := Aside0.mk hr0
  have H1 := Aside0.mk hr1
  clear hr0 hr1
  go_enter Try.func69, Try.ntmps69
  go_wp2
  go_loopw [13] (fun v13 wr => ∃ i : Nat, v13 = .int .i64 (i : Int) ∧ i ≤ l.length ∧ Aside0 (Below w.heap.size w wr)) (fun v13 _ => l.length - (intOf v13).toNat)
  case atStart => exact ⟨0, rfl, Nat.zero_le _, ⟨Below.refl _ _⟩⟩
  case round =>
    obtain ⟨i, rfl, hi, HB⟩ := hrel
    by_cases hlt : i < l.length
    · obtain ⟨ad0, e0, x0, x1, x2⟩ := at_Part (Kd.C_below H0.out HB.out) i hlt
      obtain ⟨ad1, e1, y0, y1, y2⟩ := at_Part (Kd.C_below H1.out HB.out) i hlt
      subst e0 e1
      obtain ⟨p, hp⟩ : ∃ p, p = l.getD i default := ⟨_, rfl⟩
      rw [← hp] at x0 x1 x2 y0 y1 y2
      have hi0 : (0 : Int) ≤ (i : Int) := by omega
      have hi1 : (i : Int) < (l.length : Int) := by omega
      clear hp
      go_wp2
      go_quiet (fail)
      all_goals
        go_wp2
        go_roundw
        case rel => exact ⟨i + 1, by go_num, by omega, ⟨below_drewN' HB.out _⟩⟩
        case measure => simp [intOf]; omega
    · go_wp2
      go_ret
      exact ⟨rfl, HB.out⟩
theorem nets_of (code : List Int) (A : Option Addr) (c : Nat) (n : NetT) (w : World) (hr : Kd.C (Kd.int .u8) w A code.length code) (hg : GCode code) (hn : n = netG code) :
    Calls Try.prog 33 #[.slice A code.length c] w
      fun e w' => ∃ u : (Option Addr × Nat) × (Option Addr × Nat), e = .returned (.agg #[.slice u.1.1 n.pieces.length u.1.2, .slice u.2.1 n.joints.length u.2.2]) ∧ RdNet 67 w' u n ∧ Below w.heap.size w w' := by
  subst hn; exact nets_any code A c w hr hg
theorem nameG_size (i : Nat) (h : i ≤ 1000) : (nameG i).size ≤ 1002 := by
  have h1 : (nameG i).size = (nameL i).length := by show (nameL i).toArray.size = _; simp
  have := decL_len i
  rw [h1]
  unfold nameL
  simp only [List.length_cons]
  omega
theorem netG_fits (code : List Int) : NetFits (netG code) := by
  have hP := piecesN_bd code
  have hl : (netG code).pieces.length = piecesN code := genPs_len code
  have hJ := netG_joints code
  have hE := netG_ends code
  have hEl := genEs_len code
  have hj : ∀ x ∈ (netG code).joints, x.ends.length ≤ 18 ∧ x.name.size ≤ 1002 := fun x hx => by
    obtain ⟨i, hi, he⟩ := List.getElem_of_mem hx
    obtain ⟨es, q, h1, h2, h3⟩ := netG_joint code hi
    rw [getD_at _ _ hi, he] at h3
    have hm := sum_mem_le (fun j : JointT => j.ends.length) (netG code).joints x hx
    have hfl : ((netG code).joints.map (fun j : JointT => j.ends.length)).sum = (allEnds (netG code)).length := by unfold allEnds; rw [List.length_flatMap]
    rw [hfl, hE, hEl] at hm
    refine ⟨by omega, ?_⟩
    rw [h3]
    unfold jointG
    simp only
    split
    · exact nameG_size _ (by omega)
    · show (0 : Nat) ≤ 1002; omega
  refine ⟨by omega, by omega, fun x hx => by have := (hj x hx).1; omega, by rw [hE, hEl]; omega, fun x hx => ?_, fun x hx => by have := (hj x hx).2; omega⟩
  obtain ⟨i, hi, he⟩ := List.getElem_of_mem hx
  obtain ⟨k, hk⟩ := genPieces_at code (pickV code 4 0) 2 (piecesN code) i (by omega)
  have hk2 : (netG code).pieces.getD i default = (genPiece code (pickV code 4 0) i k).1 := hk
  rw [getD_at _ _ hi, he] at hk2
  rw [hk2, (genPiece_is code (pickV code 4 0) i k).1]
  have := nameG_size i (by omega)
  omega
theorem netG_small (code : List Int) : (netG code).pieces.length ≤ 9 ∧ ∀ p : Int, 0 ≤ p → p < ((netG code).pieces.length : Int) → lenP (netG code) p ≤ 300 := by
  have hP := piecesN_bd code
  have hl : (netG code).pieces.length = piecesN code := genPs_len code
  refine ⟨by omega, fun p h0 h1 => ?_⟩
  obtain ⟨k, hk⟩ := genPieces_at code (pickV code 4 0) 2 (piecesN code) p.toNat (by omega)
  have hk2 : (netG code).pieces.getD p.toNat default = (genPiece code (pickV code 4 0) p.toNat k).1 := hk
  unfold lenP
  rw [hk2]
  exact (genPiece_is code (pickV code 4 0) p.toNat k).2.2.1
end Go.Proofs.Ytckcffjnffcjcaa
namespace Go.Proofs.Ytckcffjnffcjcaa
open Go.RowKit Go.Proofs.YtckcffjnffcjcaaW.PrintWords
theorem Bx.keep {W w1 : World} {b g : Nat} {vs : List Value} (h : Bx W b vs) (hk : KeepBut W w1 g none) (hne : b ≠ g) : Bx w1 b vs := by
  have e : w1.heap[b]? = W.heap[b]? := hk.2 b h.lt hne (by simp)
  refine ⟨Nat.lt_of_lt_of_le h.lt hk.1, fun i v hv => ?_, fun i => ?_⟩
  · have := h.c i v hv
    unfold World.cell? at this ⊢
    simp only at this ⊢
    rw [e]; exact this
  · have := h.f i
    unfold World.frozen? at this ⊢
    simp only at this ⊢
    rw [e]; exact this
theorem below_part {lo : Nat} {w W : World} (h : Below w.heap.size w W) (hlo : lo ≤ w.heap.size) : Below lo w W := below_lower (Below.refl lo w) h hlo
set_option maxRecDepth 100000 in
set_option maxHeartbeats 4000000 in
theorem stop_any (c i : Int) (b16 bd : Nat) (x0 x2 far p a s : Int) (w : World) (h16 : Bx w b16 [.int .i64 i]) (hd : Bx w bd [.int .i64 x0, .int .i64 far, .int .i64 x2, .int .i64 p, .int .i64 a, .int .i64 s]) (hne : b16 ≠ bd) :
    Calls Try.prog 170 #[.int .i64 c, .pointer (some ⟨b16, 0, none⟩), .pointer (some ⟨bd, 0, none⟩)] w
      fun e w' => e = .returned (.agg #[.int .i64 c, .int .i64 far, .int .i64 i, .int .i64 p, .int .i64 a, .int .i64 s]) ∧ KeepBut w w' bd none ∧ ∀ lo, lo ≤ bd → lo ≤ w.heap.size → Below lo w w' := by
  obtain ⟨W0, hW0⟩ : ∃ W0, W0 = w.alloc (.cells #[.int .i64 0, .int .i64 0, .int .i64 0, .int .i64 0, .int .i64 0, .int .i64 0] 44) := ⟨_, rfl⟩
  have hn := Bx.new w [.int .i64 0, .int .i64 0, .int .i64 0, .int .i64 0, .int .i64 0, .int .i64 0] 44
  have h16' := h16.alloc (.cells #[.int .i64 0, .int .i64 0, .int .i64 0, .int .i64 0, .int .i64 0, .int .i64 0] 44)
  have hd' := hd.alloc (.cells #[.int .i64 0, .int .i64 0, .int .i64 0, .int .i64 0, .int .i64 0, .int .i64 0] 44)
  have fb := below_alloc (Below.refl w.heap.size w) (.cells #[.int .i64 0, .int .i64 0, .int .i64 0, .int .i64 0, .int .i64 0, .int .i64 0] 44)
  have hbl := hd.lt
  have hdw : bd ≠ w.heap.size := by omega
  have hwd : w.heap.size ≠ bd := by omega
  have z0 := hn.c 0 _ rfl
  rw [show [Value.int .i64 0, .int .i64 0, .int .i64 0, .int .i64 0, .int .i64 0, .int .i64 0].toArray = #[Value.int .i64 0, .int .i64 0, .int .i64 0, .int .i64 0, .int .i64 0, .int .i64 0] from rfl, ← hW0] at hn
  clear z0
  rw [← hW0] at h16' hd' fb
  have d0 := hd'.c 0 _ rfl; have d1 := hd'.c 1 _ rfl; have d2 := hd'.c 2 _ rfl; have d3 := hd'.c 3 _ rfl; have d4 := hd'.c 4 _ rfl; have d5 := hd'.c 5 _ rfl; have df0 := hd'.f 0; have df1 := hd'.f 1; have df2 := hd'.f 2; have df3 := hd'.f 3; have df4 := hd'.f 4; have df5 := hd'.f 5; have z0 := hn.c 0 _ rfl; have z1 := hn.c 1 _ rfl; have z2 := hn.c 2 _ rfl; have z3 := hn.c 3 _ rfl; have z4 := hn.c 4 _ rfl; have z5 := hn.c 5 _ rfl; have zf0 := hn.f 0; have zf1 := hn.f 1; have zf2 := hn.f 2; have zf3 := hn.f 3; have zf4 := hn.f 4; have zf5 := hn.f 5; have i0 := h16'.c 0 _ rfl; have zlt := hn.lt; have dlt := hd'.lt
  have FB := Aside0.mk fb
  have HDS := Aside0.mk hd'
  have HNS := Aside0.mk hn
  have HW := Aside0.mk hW0
  clear hn h16 h16' hd hd' fb hW0
  go_enter Try.func170, Try.ntmps170
  go_wp2
  try rw [← HW.out]
  go_region
  all_goals
    try go_wp2
    refine bodyPost_ret (v := .agg #[.int .i64 c, .int .i64 far, .int .i64 i, .int .i64 p, .int .i64 a, .int .i64 s]) (by simp [results, Try.results170, go_sem, d0, d1, d2, d3, d4, d5, df0, df1, df2, df3, df4, df5, z0, z1, z2, z3, z4, z5, zf0, zf1, zf2, zf3, zf4, zf5, zlt, dlt, hdw, hwd]) rfl ⟨rfl, ?_, ?_⟩
    · repeat (first | (with_reducible exact KeepBut.of_below FB.out _ _) | (with_reducible refine KeepBut.set_ ?_ _ _) | (with_reducible refine keep_drew ?_) | (with_reducible refine keep_far ?_ (Nat.le_refl _) _))
    · intro lo h1 h2
      repeat (first | (with_reducible exact below_part FB.out h2) | (with_reducible refine Below.setCell ?_ h2 _) | (with_reducible refine Below.setCell ?_ h1 _) | (refine Below.drew ?_))
set_option maxRecDepth 100000 in
theorem sinkNone_any (x : PartT) (w : World) :
    Calls Try.prog 113 #[.agg #[.int .i64 x.piece, .int .i64 x.frm, .int .i64 x.upto]] w fun e w' => e = .returned (.tuple #[]) ∧ Below w.heap.size w w' := by
  go_enter Try.func113, Try.ntmps113
  go_wp2
  go_end0
  exact ⟨rfl, below_alloc (Below.refl _ _) _⟩
end Go.Proofs.Ytckcffjnffcjcaa
namespace Go.Proofs.Ytckcffjnffcjcaa
open Go.RowKit Go.Proofs.YtckcffjnffcjcaaW.PrintWords
set_option maxRecDepth 100000 in
set_option maxHeartbeats 4000000 in
theorem over_any (n : NetT) (u : (Option Addr × Nat) × (Option Addr × Nat)) (x : EndT) (w : World) (hr : RdNet 67 w u n) (hg : Good n) :
    Calls Try.prog 136 #[.agg #[.slice u.1.1 n.pieces.length u.1.2, .slice u.2.1 n.joints.length u.2.2], .agg #[.int .i64 x.piece, .int .i64 x.side]] w
      fun e w' => ∃ v1 v2, e = .returned (.tuple #[v1, v2]) ∧ Kd.R kEnd 67 w' w.heap.size (fun _ => True) v1 (acrossG n x) ∧ Kd.R (Kd.int .i64) 3 w' w.heap.size (fun _ => True) v2 (howG n x) ∧ Below w.heap.size w w' := by
  have HR := Aside0.mk hr
  have hjm := hr.2.1.2.1
  have HJR := Aside0.mk hr.2.1
  have HGd := Aside0.mk hg
  clear hr hg
  obtain ⟨⟨A0, c0⟩, ⟨A1, c1⟩⟩ := u
  obtain ⟨W0, hW0, hN, hS, fb0, hsz⟩ := box2 w [.slice A0 n.pieces.length c0, .slice A1 n.joints.length c1] [.int .i64 x.piece, .int .i64 x.side] 35 67
  have fb := Aside0.mk fb0
  have HN := Aside0.mk hN
  have HS := Aside0.mk hS
  have HW := Aside0.mk hW0
  clear hW0 fb0 hN hS hsz
  rcases atEnd_cases n x with ⟨hat, _⟩ | ⟨i, q, hat, hi, hq, he⟩
  · have HA := Aside0.mk hat
    have HV := Aside0.mk (acrossG_none hat)
    clear hat
    go_enter Try.func136, Try.ntmps136
    go_wp2_with (go_at_call 134; rw [← HW.out]; refine (at_any n ((A0, c0), (A1, c1)) x _ (HR.out.below fb.out)).mono ?_; rintro e w3 ⟨rfl, hb3⟩; simp only [HA.out]; have B3 := Aside0.mk (below_more fb.out hb3); clear hb3)
    refine bodyPost_ret (v := .tuple #[.slice none 0 0, .slice none 0 0]) (by simp [results, Try.results136, go_sem]) rfl ⟨_, _, rfl, by rw [HV.out.1]; exact Kd.R_nil .., by rw [HV.out.2]; exact Kd.R_nil .., B3.out⟩
  · have HAI := Aside0.mk (AtIs.mk hat hi hq he)
    have HV := Aside0.mk (acrossG_at (AtIs.mk hat hi hq he))
    have hK := HGd.out.kindAt hi
    obtain ⟨hk1, hk2, hk3, _⟩ := hK
    clear hat he
    obtain ⟨ad0, A2, k0, e0, x0, x1, x2, m0, g0⟩ := at_Joint HJR.out i hi
    simp only at e0
    subst e0
    obtain ⟨j, hj⟩ : ∃ j, j = n.joints.getD i default := ⟨_, rfl⟩
    rw [← hj] at x0 x1 x2 m0 g0 hk1 hk2 hk3 hq HV
    clear hj x1 m0
    obtain ⟨jk, jn, je⟩ := j
    simp only at x0 x2 g0 hk1 hk2 hk3 hq HV
    obtain ⟨ad, rfl⟩ := C_some g0 (by omega)
    have HG := Aside0.mk g0
    have hgm := g0.2.1
    clear g0
    have iz : (0 : Int) ≤ (i : Int) := by omega
    have hij : (i : Int) < (n.joints.length : Int) := by omega
    have neg : ((i : Int) < 0) = False := by simp
    have hkc : jk = 1 ∨ jk = 2 ∨ jk = 3 ∨ jk = 4 := by omega
    rcases hkc with rfl | rfl | rfl | rfl
    · have HA2 : Aside0 (acrossG n x = [] ∧ howG n x = []) := ⟨by rw [HV.out.1, HV.out.2]; exact aJ1 rfl⟩
      clear HV
      go_enter Try.func136, Try.ntmps136
      go_wp2_with (go_at_call 134; rw [← HW.out]; refine (at_any n ((A0, c0), (some ad0, c1)) x _ (HR.out.below fb.out)).mono ?_; rintro e w3 ⟨rfl, hb3⟩; simp only [HAI.out.eq]; have B3 := Aside0.mk (below_more fb.out hb3); have b3 := B3.out; replace x0 := pw_cell_below b3 x0; replace x2 := pw_cell_below b3 x2; clear b3; have n0 := (HN.out.below hb3).c 0 _ rfl; have n1 := (HN.out.below hb3).c 1 _ rfl; clear hb3)
      refine bodyPost_ret (v := .tuple #[.slice none 0 0, .slice none 0 0]) (by simp [results, Try.results136, go_sem]) rfl ⟨_, _, rfl, by rw [HA2.out.1]; exact Kd.R_nil .., by rw [HA2.out.2]; exact Kd.R_nil .., B3.out⟩
    · have hl : je.length = 2 := by omega
      rw [hl] at HG x2 hgm
      have hqc : q = 0 ∨ q = 1 := by omega
      clear hk1 hk2 hk3 hq
      rcases hqc with rfl | rfl
      ·
        have HA := Aside0.mk (aJ2 (j := ⟨2, jn, je⟩) (q := 0) rfl)
        obtain ⟨y0, y1⟩ := end1 HG.out (ad := ad) rfl (by omega)
        obtain ⟨p, hp⟩ : ∃ p, p = je.getD 1 default := ⟨_, rfl⟩
        rw [← hp] at y0 y1
        have HA2 : Aside0 (acrossG n x = [p] ∧ howG n x = [0]) := ⟨by rw [HV.out.1, HV.out.2, HA.out.1, HA.out.2]; rw [hp]; exact ⟨rfl, rfl⟩⟩
        clear hp HA HV
        go_enter Try.func136, Try.ntmps136
        go_wp2_with (go_at_call 134; rw [← HW.out]; refine (at_any n ((A0, c0), (some ad0, c1)) x _ (HR.out.below fb.out)).mono ?_; rintro e w3 ⟨rfl, hb3⟩; simp only [HAI.out.eq]; have B3 := Aside0.mk (below_more fb.out hb3); have b3 := B3.out; replace x0 := pw_cell_below b3 x0; replace x2 := pw_cell_below b3 x2; replace y0 := pw_cell_below b3 y0; replace y1 := pw_cell_below b3 y1; clear b3; have n0 := (HN.out.below hb3).c 0 _ rfl; have n1 := (HN.out.below hb3).c 1 _ rfl; clear hb3)
        all_goals
          refine bodyPost_ret (v := .tuple #[.slice (some ⟨_, 0, none⟩) 1 1, .slice (some ⟨_, 0, none⟩) 1 1]) (by simp [results, Try.results136, go_sem]; exact ⟨rfl, rfl⟩) rfl ⟨_, _, rfl, ?_, ?_, ?_⟩
          · rw [HA2.out.1]
            first
              | exact Kd.R_alloc (R_end1 _ p rfl (by have := B3.out.size; simp; try omega)) _
              | exact R_end1 _ p rfl (by have := B3.out.size; simp; try omega)
              | exact R_end1 _ p (by simp) (by have := B3.out.size; simp; try omega)
          · rw [HA2.out.2]
            first
              | exact R_int1 _ (0) rfl (by have := B3.out.size; simp; try omega)
              | exact R_int1 _ (0) (by simp) (by have := B3.out.size; simp; try omega)
              | exact Kd.R_alloc (R_int1 _ (0) rfl (by have := B3.out.size; simp; try omega)) _
              | exact Kd.R_alloc (R_int1 _ (0) (by simp) (by have := B3.out.size; simp; try omega)) _
          · repeat (first | (with_reducible exact Below.refl _ _) | (with_reducible exact B3.out) | (with_reducible refine below_drew ?_) | (with_reducible refine below_drewN' ?_ _) | (with_reducible refine below_alloc ?_ _))
      ·
        have HA := Aside0.mk (aJ2 (j := ⟨2, jn, je⟩) (q := 1) rfl)
        obtain ⟨y0, y1⟩ := end0 HG.out (ad := ad) rfl (by omega)
        obtain ⟨p, hp⟩ : ∃ p, p = je.getD 0 default := ⟨_, rfl⟩
        rw [← hp] at y0 y1
        have HA2 : Aside0 (acrossG n x = [p] ∧ howG n x = [0]) := ⟨by rw [HV.out.1, HV.out.2, HA.out.1, HA.out.2]; rw [hp]; exact ⟨rfl, rfl⟩⟩
        clear hp HA HV
        go_enter Try.func136, Try.ntmps136
        go_wp2_with (go_at_call 134; rw [← HW.out]; refine (at_any n ((A0, c0), (some ad0, c1)) x _ (HR.out.below fb.out)).mono ?_; rintro e w3 ⟨rfl, hb3⟩; simp only [HAI.out.eq]; have B3 := Aside0.mk (below_more fb.out hb3); have b3 := B3.out; replace x0 := pw_cell_below b3 x0; replace x2 := pw_cell_below b3 x2; replace y0 := pw_cell_below b3 y0; replace y1 := pw_cell_below b3 y1; clear b3; have n0 := (HN.out.below hb3).c 0 _ rfl; have n1 := (HN.out.below hb3).c 1 _ rfl; clear hb3)
        all_goals
          refine bodyPost_ret (v := .tuple #[.slice (some ⟨_, 0, none⟩) 1 1, .slice (some ⟨_, 0, none⟩) 1 1]) (by simp [results, Try.results136, go_sem]; exact ⟨rfl, rfl⟩) rfl ⟨_, _, rfl, ?_, ?_, ?_⟩
          · rw [HA2.out.1]
            first
              | exact Kd.R_alloc (R_end1 _ p rfl (by have := B3.out.size; simp; try omega)) _
              | exact R_end1 _ p rfl (by have := B3.out.size; simp; try omega)
              | exact R_end1 _ p (by simp) (by have := B3.out.size; simp; try omega)
          · rw [HA2.out.2]
            first
              | exact R_int1 _ (0) rfl (by have := B3.out.size; simp; try omega)
              | exact R_int1 _ (0) (by simp) (by have := B3.out.size; simp; try omega)
              | exact Kd.R_alloc (R_int1 _ (0) rfl (by have := B3.out.size; simp; try omega)) _
              | exact Kd.R_alloc (R_int1 _ (0) (by simp) (by have := B3.out.size; simp; try omega)) _
          · repeat (first | (with_reducible exact Below.refl _ _) | (with_reducible exact B3.out) | (with_reducible refine below_drew ?_) | (with_reducible refine below_drewN' ?_ _) | (with_reducible refine below_alloc ?_ _))
    · have hl : je.length = 3 := by omega
      rw [hl] at HG x2 hgm
      have hqc : q = 0 ∨ q = 1 ∨ q = 2 := by omega
      clear hk1 hk2 hk3 hq
      rcases hqc with rfl | rfl | rfl
      ·
        have HA := Aside0.mk (aJ30 (j := ⟨3, jn, je⟩) rfl)
        obtain ⟨y0, y1⟩ := end1 HG.out (ad := ad) rfl (by omega)
        obtain ⟨z0, z1⟩ := end2 HG.out (ad := ad) rfl (by omega)
        obtain ⟨p, hp⟩ : ∃ p, p = je.getD 1 default := ⟨_, rfl⟩
        rw [← hp] at y0 y1
        obtain ⟨r, hr⟩ : ∃ p, p = je.getD 2 default := ⟨_, rfl⟩
        rw [← hr] at z0 z1
        have HA2 : Aside0 (acrossG n x = [p, r] ∧ howG n x = [1, 2]) := ⟨by rw [HV.out.1, HV.out.2, HA.out.1, HA.out.2]; rw [hp, hr]; exact ⟨rfl, rfl⟩⟩
        clear hp hr HA HV
        go_enter Try.func136, Try.ntmps136
        go_wp2_with (go_at_call 134; rw [← HW.out]; refine (at_any n ((A0, c0), (some ad0, c1)) x _ (HR.out.below fb.out)).mono ?_; rintro e w3 ⟨rfl, hb3⟩; simp only [HAI.out.eq]; have B3 := Aside0.mk (below_more fb.out hb3); have b3 := B3.out; replace x0 := pw_cell_below b3 x0; replace x2 := pw_cell_below b3 x2; replace y0 := pw_cell_below b3 y0; replace y1 := pw_cell_below b3 y1; replace z0 := pw_cell_below b3 z0; replace z1 := pw_cell_below b3 z1; have y0' := pw_cell_below (below_alloc (Below.refl _ _) (.cells #[.int .i64 1, .int .i64 2] 3)) y0; have y1' := pw_cell_below (below_alloc (Below.refl _ _) (.cells #[.int .i64 1, .int .i64 2] 3)) y1; have z0' := pw_cell_below (below_alloc (Below.refl _ _) (.cells #[.int .i64 1, .int .i64 2] 3)) z0; have z1' := pw_cell_below (below_alloc (Below.refl _ _) (.cells #[.int .i64 1, .int .i64 2] 3)) z1; clear b3; have n0 := (HN.out.below hb3).c 0 _ rfl; have n1 := (HN.out.below hb3).c 1 _ rfl; clear hb3)
        go_region
        all_goals try go_wp2
        all_goals
          refine bodyPost_ret (v := .tuple #[.slice (some ⟨_, 0, none⟩) 2 2, .slice (some ⟨_, 0, none⟩) 2 2]) (by simp [results, Try.results136, go_sem]; exact ⟨rfl, rfl⟩) rfl ⟨_, _, rfl, ?_, ?_, ?_⟩
          · rw [HA2.out.1]
            first
              | exact Kd.R_alloc (R_end2 _ p r rfl (by have := B3.out.size; simp; try omega)) _
              | exact R_end2 _ p r rfl (by have := B3.out.size; simp; try omega)
              | exact R_end2 _ p r (by simp) (by have := B3.out.size; simp; try omega)
          · rw [HA2.out.2]
            first
              | exact R_int2 _ (1) (2) rfl (by have := B3.out.size; simp; try omega)
              | exact R_int2 _ (1) (2) (by simp) (by have := B3.out.size; simp; try omega)
              | exact Kd.R_alloc (R_int2 _ (1) (2) rfl (by have := B3.out.size; simp; try omega)) _
              | exact Kd.R_alloc (R_int2 _ (1) (2) (by simp) (by have := B3.out.size; simp; try omega)) _
          · repeat (first | (with_reducible exact Below.refl _ _) | (with_reducible exact B3.out) | (with_reducible refine below_drew ?_) | (with_reducible refine below_drewN' ?_ _) | (with_reducible refine below_alloc ?_ _))
      ·
        have HA := Aside0.mk (aJ3 (j := ⟨3, jn, je⟩) (q := 1) rfl (by omega))
        obtain ⟨y0, y1⟩ := end0 HG.out (ad := ad) rfl (by omega)
        obtain ⟨p, hp⟩ : ∃ p, p = je.getD 0 default := ⟨_, rfl⟩
        rw [← hp] at y0 y1
        have HA2 : Aside0 (acrossG n x = [p] ∧ howG n x = [1]) := ⟨by rw [HV.out.1, HV.out.2, HA.out.1, HA.out.2]; rw [hp]; exact ⟨rfl, rfl⟩⟩
        clear hp HA HV
        go_enter Try.func136, Try.ntmps136
        go_wp2_with (go_at_call 134; rw [← HW.out]; refine (at_any n ((A0, c0), (some ad0, c1)) x _ (HR.out.below fb.out)).mono ?_; rintro e w3 ⟨rfl, hb3⟩; simp only [HAI.out.eq]; have B3 := Aside0.mk (below_more fb.out hb3); have b3 := B3.out; replace x0 := pw_cell_below b3 x0; replace x2 := pw_cell_below b3 x2; replace y0 := pw_cell_below b3 y0; replace y1 := pw_cell_below b3 y1; clear b3; have n0 := (HN.out.below hb3).c 0 _ rfl; have n1 := (HN.out.below hb3).c 1 _ rfl; clear hb3)
        all_goals
          refine bodyPost_ret (v := .tuple #[.slice (some ⟨_, 0, none⟩) 1 1, .slice (some ⟨_, 0, none⟩) 1 1]) (by simp [results, Try.results136, go_sem]; exact ⟨rfl, rfl⟩) rfl ⟨_, _, rfl, ?_, ?_, ?_⟩
          · rw [HA2.out.1]
            first
              | exact Kd.R_alloc (R_end1 _ p rfl (by have := B3.out.size; simp; try omega)) _
              | exact R_end1 _ p rfl (by have := B3.out.size; simp; try omega)
              | exact R_end1 _ p (by simp) (by have := B3.out.size; simp; try omega)
          · rw [HA2.out.2]
            first
              | exact R_int1 _ (1) rfl (by have := B3.out.size; simp; try omega)
              | exact R_int1 _ (1) (by simp) (by have := B3.out.size; simp; try omega)
              | exact Kd.R_alloc (R_int1 _ (1) rfl (by have := B3.out.size; simp; try omega)) _
              | exact Kd.R_alloc (R_int1 _ (1) (by simp) (by have := B3.out.size; simp; try omega)) _
          · repeat (first | (with_reducible exact Below.refl _ _) | (with_reducible exact B3.out) | (with_reducible refine below_drew ?_) | (with_reducible refine below_drewN' ?_ _) | (with_reducible refine below_alloc ?_ _))
      ·
        have HA := Aside0.mk (aJ3 (j := ⟨3, jn, je⟩) (q := 2) rfl (by omega))
        obtain ⟨y0, y1⟩ := end0 HG.out (ad := ad) rfl (by omega)
        obtain ⟨p, hp⟩ : ∃ p, p = je.getD 0 default := ⟨_, rfl⟩
        rw [← hp] at y0 y1
        have HA2 : Aside0 (acrossG n x = [p] ∧ howG n x = [2]) := ⟨by rw [HV.out.1, HV.out.2, HA.out.1, HA.out.2]; rw [hp]; exact ⟨rfl, rfl⟩⟩
        clear hp HA HV
        go_enter Try.func136, Try.ntmps136
        go_wp2_with (go_at_call 134; rw [← HW.out]; refine (at_any n ((A0, c0), (some ad0, c1)) x _ (HR.out.below fb.out)).mono ?_; rintro e w3 ⟨rfl, hb3⟩; simp only [HAI.out.eq]; have B3 := Aside0.mk (below_more fb.out hb3); have b3 := B3.out; replace x0 := pw_cell_below b3 x0; replace x2 := pw_cell_below b3 x2; replace y0 := pw_cell_below b3 y0; replace y1 := pw_cell_below b3 y1; clear b3; have n0 := (HN.out.below hb3).c 0 _ rfl; have n1 := (HN.out.below hb3).c 1 _ rfl; clear hb3)
        all_goals
          refine bodyPost_ret (v := .tuple #[.slice (some ⟨_, 0, none⟩) 1 1, .slice (some ⟨_, 0, none⟩) 1 1]) (by simp [results, Try.results136, go_sem]; exact ⟨rfl, rfl⟩) rfl ⟨_, _, rfl, ?_, ?_, ?_⟩
          · rw [HA2.out.1]
            first
              | exact Kd.R_alloc (R_end1 _ p rfl (by have := B3.out.size; simp; try omega)) _
              | exact R_end1 _ p rfl (by have := B3.out.size; simp; try omega)
              | exact R_end1 _ p (by simp) (by have := B3.out.size; simp; try omega)
          · rw [HA2.out.2]
            first
              | exact R_int1 _ (2) rfl (by have := B3.out.size; simp; try omega)
              | exact R_int1 _ (2) (by simp) (by have := B3.out.size; simp; try omega)
              | exact Kd.R_alloc (R_int1 _ (2) rfl (by have := B3.out.size; simp; try omega)) _
              | exact Kd.R_alloc (R_int1 _ (2) (by simp) (by have := B3.out.size; simp; try omega)) _
          · repeat (first | (with_reducible exact Below.refl _ _) | (with_reducible exact B3.out) | (with_reducible refine below_drew ?_) | (with_reducible refine below_drewN' ?_ _) | (with_reducible refine below_alloc ?_ _))
    · have hl : je.length = 4 := by omega
      rw [hl] at HG x2 hgm
      have hqc : q = 0 ∨ q = 1 ∨ q = 2 ∨ q = 3 := by omega
      clear hk1 hk2 hk3 hq
      rcases hqc with rfl | rfl | rfl | rfl
      ·
        have HA := Aside0.mk (aJ4 (j := ⟨4, jn, je⟩) (q := 0) rfl)
        obtain ⟨y0, y1⟩ := end1 HG.out (ad := ad) rfl (by omega)
        obtain ⟨p, hp⟩ : ∃ p, p = je.getD 1 default := ⟨_, rfl⟩
        rw [← hp] at y0 y1
        have HA2 : Aside0 (acrossG n x = [p] ∧ howG n x = [0]) := ⟨by rw [HV.out.1, HV.out.2, HA.out.1, HA.out.2]; rw [hp]; exact ⟨rfl, rfl⟩⟩
        clear hp HA HV
        have hbit : bits .xor .i64 (0 : Int) 1 = 1 := by kernel_rfl
        go_enter Try.func136, Try.ntmps136
        go_wp2_with (go_at_call 134; rw [← HW.out]; refine (at_any n ((A0, c0), (some ad0, c1)) x _ (HR.out.below fb.out)).mono ?_; rintro e w3 ⟨rfl, hb3⟩; simp only [HAI.out.eq]; have B3 := Aside0.mk (below_more fb.out hb3); have b3 := B3.out; replace x0 := pw_cell_below b3 x0; replace x2 := pw_cell_below b3 x2; replace y0 := pw_cell_below b3 y0; replace y1 := pw_cell_below b3 y1; clear b3; have n0 := (HN.out.below hb3).c 0 _ rfl; have n1 := (HN.out.below hb3).c 1 _ rfl; clear hb3)
        all_goals
          refine bodyPost_ret (v := .tuple #[.slice (some ⟨_, 0, none⟩) 1 1, .slice (some ⟨_, 0, none⟩) 1 1]) (by simp [results, Try.results136, go_sem]; exact ⟨rfl, rfl⟩) rfl ⟨_, _, rfl, ?_, ?_, ?_⟩
          · rw [HA2.out.1]
            first
              | exact Kd.R_alloc (R_end1 _ p rfl (by have := B3.out.size; simp; try omega)) _
              | exact R_end1 _ p rfl (by have := B3.out.size; simp; try omega)
              | exact R_end1 _ p (by simp) (by have := B3.out.size; simp; try omega)
          · rw [HA2.out.2]
            first
              | exact R_int1 _ (0) rfl (by have := B3.out.size; simp; try omega)
              | exact R_int1 _ (0) (by simp) (by have := B3.out.size; simp; try omega)
              | exact Kd.R_alloc (R_int1 _ (0) rfl (by have := B3.out.size; simp; try omega)) _
              | exact Kd.R_alloc (R_int1 _ (0) (by simp) (by have := B3.out.size; simp; try omega)) _
          · repeat (first | (with_reducible exact Below.refl _ _) | (with_reducible exact B3.out) | (with_reducible refine below_drew ?_) | (with_reducible refine below_drewN' ?_ _) | (with_reducible refine below_alloc ?_ _))
      ·
        have HA := Aside0.mk (aJ4 (j := ⟨4, jn, je⟩) (q := 1) rfl)
        obtain ⟨y0, y1⟩ := end0 HG.out (ad := ad) rfl (by omega)
        obtain ⟨p, hp⟩ : ∃ p, p = je.getD 0 default := ⟨_, rfl⟩
        rw [← hp] at y0 y1
        have HA2 : Aside0 (acrossG n x = [p] ∧ howG n x = [0]) := ⟨by rw [HV.out.1, HV.out.2, HA.out.1, HA.out.2]; rw [hp]; exact ⟨rfl, rfl⟩⟩
        clear hp HA HV
        have hbit : bits .xor .i64 (1 : Int) 1 = 0 := by kernel_rfl
        go_enter Try.func136, Try.ntmps136
        go_wp2_with (go_at_call 134; rw [← HW.out]; refine (at_any n ((A0, c0), (some ad0, c1)) x _ (HR.out.below fb.out)).mono ?_; rintro e w3 ⟨rfl, hb3⟩; simp only [HAI.out.eq]; have B3 := Aside0.mk (below_more fb.out hb3); have b3 := B3.out; replace x0 := pw_cell_below b3 x0; replace x2 := pw_cell_below b3 x2; replace y0 := pw_cell_below b3 y0; replace y1 := pw_cell_below b3 y1; clear b3; have n0 := (HN.out.below hb3).c 0 _ rfl; have n1 := (HN.out.below hb3).c 1 _ rfl; clear hb3)
        all_goals
          refine bodyPost_ret (v := .tuple #[.slice (some ⟨_, 0, none⟩) 1 1, .slice (some ⟨_, 0, none⟩) 1 1]) (by simp [results, Try.results136, go_sem]; exact ⟨rfl, rfl⟩) rfl ⟨_, _, rfl, ?_, ?_, ?_⟩
          · rw [HA2.out.1]
            first
              | exact Kd.R_alloc (R_end1 _ p rfl (by have := B3.out.size; simp; try omega)) _
              | exact R_end1 _ p rfl (by have := B3.out.size; simp; try omega)
              | exact R_end1 _ p (by simp) (by have := B3.out.size; simp; try omega)
          · rw [HA2.out.2]
            first
              | exact R_int1 _ (0) rfl (by have := B3.out.size; simp; try omega)
              | exact R_int1 _ (0) (by simp) (by have := B3.out.size; simp; try omega)
              | exact Kd.R_alloc (R_int1 _ (0) rfl (by have := B3.out.size; simp; try omega)) _
              | exact Kd.R_alloc (R_int1 _ (0) (by simp) (by have := B3.out.size; simp; try omega)) _
          · repeat (first | (with_reducible exact Below.refl _ _) | (with_reducible exact B3.out) | (with_reducible refine below_drew ?_) | (with_reducible refine below_drewN' ?_ _) | (with_reducible refine below_alloc ?_ _))
      ·
        have HA := Aside0.mk (aJ4 (j := ⟨4, jn, je⟩) (q := 2) rfl)
        obtain ⟨y0, y1⟩ := end3 HG.out (ad := ad) rfl (by omega)
        obtain ⟨p, hp⟩ : ∃ p, p = je.getD 3 default := ⟨_, rfl⟩
        rw [← hp] at y0 y1
        have HA2 : Aside0 (acrossG n x = [p] ∧ howG n x = [0]) := ⟨by rw [HV.out.1, HV.out.2, HA.out.1, HA.out.2]; rw [hp]; exact ⟨rfl, rfl⟩⟩
        clear hp HA HV
        have hbit : bits .xor .i64 (2 : Int) 1 = 3 := by kernel_rfl
        go_enter Try.func136, Try.ntmps136
        go_wp2_with (go_at_call 134; rw [← HW.out]; refine (at_any n ((A0, c0), (some ad0, c1)) x _ (HR.out.below fb.out)).mono ?_; rintro e w3 ⟨rfl, hb3⟩; simp only [HAI.out.eq]; have B3 := Aside0.mk (below_more fb.out hb3); have b3 := B3.out; replace x0 := pw_cell_below b3 x0; replace x2 := pw_cell_below b3 x2; replace y0 := pw_cell_below b3 y0; replace y1 := pw_cell_below b3 y1; clear b3; have n0 := (HN.out.below hb3).c 0 _ rfl; have n1 := (HN.out.below hb3).c 1 _ rfl; clear hb3)
        all_goals
          refine bodyPost_ret (v := .tuple #[.slice (some ⟨_, 0, none⟩) 1 1, .slice (some ⟨_, 0, none⟩) 1 1]) (by simp [results, Try.results136, go_sem]; exact ⟨rfl, rfl⟩) rfl ⟨_, _, rfl, ?_, ?_, ?_⟩
          · rw [HA2.out.1]
            first
              | exact Kd.R_alloc (R_end1 _ p rfl (by have := B3.out.size; simp; try omega)) _
              | exact R_end1 _ p rfl (by have := B3.out.size; simp; try omega)
              | exact R_end1 _ p (by simp) (by have := B3.out.size; simp; try omega)
          · rw [HA2.out.2]
            first
              | exact R_int1 _ (0) rfl (by have := B3.out.size; simp; try omega)
              | exact R_int1 _ (0) (by simp) (by have := B3.out.size; simp; try omega)
              | exact Kd.R_alloc (R_int1 _ (0) rfl (by have := B3.out.size; simp; try omega)) _
              | exact Kd.R_alloc (R_int1 _ (0) (by simp) (by have := B3.out.size; simp; try omega)) _
          · repeat (first | (with_reducible exact Below.refl _ _) | (with_reducible exact B3.out) | (with_reducible refine below_drew ?_) | (with_reducible refine below_drewN' ?_ _) | (with_reducible refine below_alloc ?_ _))
      ·
        have HA := Aside0.mk (aJ4 (j := ⟨4, jn, je⟩) (q := 3) rfl)
        obtain ⟨y0, y1⟩ := end2 HG.out (ad := ad) rfl (by omega)
        obtain ⟨p, hp⟩ : ∃ p, p = je.getD 2 default := ⟨_, rfl⟩
        rw [← hp] at y0 y1
        have HA2 : Aside0 (acrossG n x = [p] ∧ howG n x = [0]) := ⟨by rw [HV.out.1, HV.out.2, HA.out.1, HA.out.2]; rw [hp]; exact ⟨rfl, rfl⟩⟩
        clear hp HA HV
        have hbit : bits .xor .i64 (3 : Int) 1 = 2 := by kernel_rfl
        go_enter Try.func136, Try.ntmps136
        go_wp2_with (go_at_call 134; rw [← HW.out]; refine (at_any n ((A0, c0), (some ad0, c1)) x _ (HR.out.below fb.out)).mono ?_; rintro e w3 ⟨rfl, hb3⟩; simp only [HAI.out.eq]; have B3 := Aside0.mk (below_more fb.out hb3); have b3 := B3.out; replace x0 := pw_cell_below b3 x0; replace x2 := pw_cell_below b3 x2; replace y0 := pw_cell_below b3 y0; replace y1 := pw_cell_below b3 y1; clear b3; have n0 := (HN.out.below hb3).c 0 _ rfl; have n1 := (HN.out.below hb3).c 1 _ rfl; clear hb3)
        all_goals
          refine bodyPost_ret (v := .tuple #[.slice (some ⟨_, 0, none⟩) 1 1, .slice (some ⟨_, 0, none⟩) 1 1]) (by simp [results, Try.results136, go_sem]; exact ⟨rfl, rfl⟩) rfl ⟨_, _, rfl, ?_, ?_, ?_⟩
          · rw [HA2.out.1]
            first
              | exact Kd.R_alloc (R_end1 _ p rfl (by have := B3.out.size; simp; try omega)) _
              | exact R_end1 _ p rfl (by have := B3.out.size; simp; try omega)
              | exact R_end1 _ p (by simp) (by have := B3.out.size; simp; try omega)
          · rw [HA2.out.2]
            first
              | exact R_int1 _ (0) rfl (by have := B3.out.size; simp; try omega)
              | exact R_int1 _ (0) (by simp) (by have := B3.out.size; simp; try omega)
              | exact Kd.R_alloc (R_int1 _ (0) rfl (by have := B3.out.size; simp; try omega)) _
              | exact Kd.R_alloc (R_int1 _ (0) (by simp) (by have := B3.out.size; simp; try omega)) _
          · repeat (first | (with_reducible exact Below.refl _ _) | (with_reducible exact B3.out) | (with_reducible refine below_drew ?_) | (with_reducible refine below_drewN' ?_ _) | (with_reducible refine below_alloc ?_ _))
end Go.Proofs.Ytckcffjnffcjcaa
