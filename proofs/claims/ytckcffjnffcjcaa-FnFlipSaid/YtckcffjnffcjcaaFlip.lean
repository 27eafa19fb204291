/- Contract of the reference's Flipped. Conditions: sizes that the model's append can take; the ends' sides are 0 or 1. -/
import Derived.Test.YtckcffjnffcjcaaCopy
import Derived.Outline
set_option linter.unusedVariables false
set_option linter.unusedSimpArgs false
namespace Go.Proofs.Ytckcffjnffcjcaa
open Go.RowKit Go.Proofs.YtckcffjnffcjcaaW.PrintWords
/-- Joint i of a net that is held apart: its cells, its ends' row. -/
theorem CP.atJ {W : World} {base : Nat} {A : Option Addr} {n c : Nat} {fl : List FlatT} {own : Nat → Int} {js : List JointT} (h : CP W base (.slice A n c) fl own js) (i : Nat) (hi : i < js.length) :
    ∃ ad B cb, A = some ad ∧ base ≤ ad.block ∧ W.cell? ⟨(ad.add (i * 3)).block, (ad.add (i * 3)).off + 2, none⟩ = some (.slice B (js.getD i default).ends.length cb) ∧ Kd.C kEnd W B (js.getD i default).ends.length (js.getD i default).ends ∧ fl[i]? = some ((js.getD i default).kind, (js.getD i default).name, (B, (js.getD i default).ends.length, cb)) := by
  obtain ⟨B, cb, h1, h2⟩ := h.each i hi
  obtain ⟨hn, hle, hC⟩ := Kd.R_reads' h.outer
  have hil : i < fl.length := by rw [h.len]; exact hi
  obtain ⟨ad, cs, e, hcl, hK, hc0⟩ := Kd.C_get hC (0, ⟨#[]⟩, (none, 0, 0)) (i : Int) (by omega) (by omega)
  rw [Int.toNat_natCast] at hK hc0
  have hg : fl.getD i (0, ⟨#[]⟩, (none, 0, 0)) = ((js.getD i default).kind, (js.getD i default).name, (B, (js.getD i default).ends.length, cb)) := by rw [List.getD_eq_getElem?_getD, h1]; rfl
  rw [hg] at hK
  obtain rfl := kFlat_open hK
  have hc : ∀ j u, [Value.int .i64 (js.getD i default).kind, Value.string (js.getD i default).name, encSl (B, (js.getD i default).ends.length, cb)][j]? = some u → W.cell? (ad.add (i * 3 + j)) = some u := hc0
  refine ⟨ad, B, cb, e, ?_, by rw [← add_field _ _ 2 (by omega)]; exact hc 2 _ rfl, (Kd.R_reads' h2).2.2, h1⟩
  subst e
  exact Kd.R_base h.outer ad.block (by simp [Value.ownBlock])
structure FI (w : World) (n : NetT) (PA : Option Addr) (pc : Nat) (JA : Option Addr) (jc : Nat) (fl : List FlatT) (own : Nat → Int) (js : List JointT) (W : World) : Prop where
  x : Bx W w.heap.size [.slice PA n.pieces.length pc, .slice JA n.joints.length jc]
  z : Bx W (w.heap.size + 1) [.slice none 0 0, .slice none 0 0]
  p : Kd.R kPiece 78 W (w.heap.size + 2) (fun _ => True) (.slice PA n.pieces.length pc) n.pieces
  c : CP W (w.heap.size + 2) (.slice JA n.joints.length jc) fl own js
  b : Below w.heap.size w W
section
variable {w W W' : World} {n : NetT} {PA JA : Option Addr} {pc jc : Nat} {fl : List FlatT} {own : Nat → Int} {js js1 : List JointT}
theorem FI.below (h : FI w n PA pc JA jc fl own js W) (hb : Below W.heap.size W W') : FI w n PA pc JA jc fl own js W' := ⟨h.x.below hb, h.z.below hb, Kd.R_below h.p hb, h.c.below hb, below_more h.b hb⟩
theorem FI.store (h : FI w n PA pc JA jc fl own js W) {g o : Nat} {v : Value} (hg : w.heap.size + 2 ≤ g) (hc : ∃ cells, W.heap[g]? = some (.cells cells 67 (0, 0))) (hC : CP (W.setCell ⟨g, o, none⟩ v) (w.heap.size + 2) (.slice JA n.joints.length jc) fl own js1) : FI w n PA pc JA jc fl own js1 (W.setCell ⟨g, o, none⟩ v) := by
  obtain ⟨cells, hc⟩ := hc
  exact ⟨h.x.far (by omega) _, h.z.far (by omega) _, Kd.R_set h.p hc kPiece_67 _ _, hC, Below.setCell h.b (by show w.heap.size ≤ g; omega) _⟩
end
set_option maxRecDepth 100000 in
set_option maxHeartbeats 8000000 in
theorem Flipped_any (n : NetT) (u : (Option Addr × Nat) × (Option Addr × Nat)) (k : Int) (w : World) (hr : RdNet 67 w u n) (hp : n.pieces.length ≤ 1048576) (hj : n.joints.length ≤ 1048576) (he : ∀ j ∈ n.joints, j.ends.length ≤ 1048576) (hsd : ∀ j ∈ n.joints, ∀ e ∈ j.ends, e.side = 0 ∨ e.side = 1) :
    Calls Try.prog 63 #[.agg #[.slice u.1.1 n.pieces.length u.1.2, .slice u.2.1 n.joints.length u.2.2], .int .i64 k] w
      fun e w' => ∃ v : (Option Addr × Nat) × (Option Addr × Nat), e = .returned (.agg #[.slice v.1.1 n.pieces.length v.1.2, .slice v.2.1 n.joints.length v.2.2]) ∧ RdNet 67 w' v (flipN n k) ∧ Below w.heap.size w w' := by
  have HR := Aside0.mk hr
  have HE := Aside0.mk he
  have HSD := Aside0.mk hsd
  have hm0 := hr.1.1.2.1
  have hm1 := hr.2.1.2.1
  obtain ⟨⟨A0, c0⟩, ⟨A1, c1⟩⟩ := u
  obtain ⟨W0, hW0⟩ : ∃ W0 : World, W0 = (w.alloc (.cells #[.slice A0 n.pieces.length c0, .slice A1 n.joints.length c1] 35)).alloc (.cells #[.slice none 0 0, .slice none 0 0] 35) := ⟨_, rfl⟩
  have X0 : Aside0 (Bx W0 w.heap.size [.slice A0 n.pieces.length c0, .slice A1 n.joints.length c1]) := ⟨by rw [hW0]; exact (Bx.new w [.slice A0 n.pieces.length c0, .slice A1 n.joints.length c1] 35).alloc _⟩
  have Z0 : Aside0 (Bx W0 (w.heap.size + 1) [.slice none 0 0, .slice none 0 0]) := ⟨by
    have := Bx.new (w.alloc (.cells #[.slice A0 n.pieces.length c0, .slice A1 n.joints.length c1] 35)) [.slice none 0 0, .slice none 0 0] 35
    rw [hW0]; simpa using this⟩
  have B0 : Aside0 (Below w.heap.size w W0) := ⟨by rw [hW0]; exact below_two _ _ _⟩
  have hsz0 : Aside0 (W0.heap.size = w.heap.size + 2) := ⟨by rw [hW0]; simp⟩
  have HW0 := Aside0.mk hW0
  clear hr he hsd hW0
  go_enter Try.func63, Try.ntmps63
  have x0 := X0.out.c 0 _ rfl; have x1 := X0.out.c 1 _ rfl
  rw [HW0.out] at x0 x1
  go_wp2_with fail
  rw [← HW0.out]
  clear x0 x1
  refine Calls.mono (l5copy_any n ((A0, c0), (A1, c1)) _ (HR.out.below B0.out) hp hj HE.out) ?_
  rintro e w1 ⟨pv, jv, fl, own, rfl, hP, hC, b1⟩
  obtain ⟨PA, pc, rfl⟩ := Kd.R_slice hP
  obtain ⟨JA, jc, rfl, hjc, _⟩ := hC.read
  have HP := Aside0.mk (Kd.R_lower hP (show w.heap.size + 2 ≤ W0.heap.size by have := hsz0.out; omega))
  have HC := Aside0.mk (CP.lower hC (show w.heap.size + 2 ≤ W0.heap.size by have := hsz0.out; omega))
  have X1 := Aside0.mk (X0.out.below b1)
  have Z1 := Aside0.mk (Z0.out.below b1)
  have B1 := Aside0.mk (below_more B0.out b1)
  have x0 := X1.out.c 0 _ rfl; have x1 := X1.out.c 1 _ rfl
  have f0 := X1.out.f 0; have f1 := X1.out.f 1; have xlt := X1.out.lt
  have hpc := (Kd.R_reads' hP).2.1
  clear hP hC b1 X0 Z0 B0
  go_wp2_with fail
  obtain ⟨W2, hW2⟩ : ∃ W2, W2 = (w1.setCell ⟨w.heap.size, 0, none⟩ (.slice PA n.pieces.length pc)).setCell ⟨w.heap.size, 1, none⟩ (.slice JA n.joints.length jc) := ⟨_, rfl⟩
  have F2 : Aside0 (FI w n PA pc JA jc fl own n.joints W2) := ⟨by
    rw [hW2]
    exact ⟨(X1.out.set (i := 0) (by simp) _).set (i := 1) (by simp) _, (Z1.out.far (by omega) _).far (by omega) _, R_apart (R_apart HP.out (by show w.heap.size < _; omega) _) (by show w.heap.size < _; omega) _, (HC.out.apart (by show w.heap.size < _; omega) _).apart (by show w.heap.size < _; omega) _, Below.setCell (Below.setCell B1.out (Nat.le_refl _) _) (Nat.le_refl _) _⟩⟩
  rw [← hW2]
  clear hW2 X1 Z1 HP HC B1 x0 x1 f0 f1 xlt
  go_loopw [12] (fun v12 wr => ∃ (i : Nat) (js' : List JointT), v12 = .int .i64 (i : Int) ∧ i ≤ n.joints.length ∧ Aside0 (Half k n.joints js' i 0) ∧ Aside0 (FI w n PA pc JA jc fl own js' wr)) (fun v12 _ => n.joints.length - (intOf v12).toNat)
  case atStart => exact ⟨0, n.joints, rfl, Nat.zero_le _, ⟨Half.start⟩, F2⟩
  case round =>
    clear F2
    obtain ⟨i, js', rfl, hi, HH, HF⟩ := hrel
    by_cases hlt : i < n.joints.length
    · have hlt' : i < js'.length := by rw [HH.out.len]; exact hlt
      have hsm := HH.out.same i hlt
      obtain ⟨ad0, B, cb, e0, _, y2, hCe, _⟩ := HF.out.c.atJ i hlt'
      subst e0
      obtain ⟨el, hel⟩ : ∃ el, el = (n.joints.getD i default).ends.length := ⟨_, rfl⟩
      rw [hsm.2.2, ← hel] at y2
      have hem : el ≤ 9223372036854775807 := by
        have := hCe.2.1
        rw [hsm.2.2] at this
        omega
      have HEL := Aside0.mk hel
      have x1 := HF.out.x.c 1 _ rfl
      clear hel hCe hsm hlt'
      go_wp2_with fail
      clear y2 x1
      obtain ⟨WO, rfl⟩ : ∃ WO : World, WO = wr := ⟨_, rfl⟩
      go_loopw [22] (fun v22 wr => ∃ (q : Nat) (js' : List JointT), v22 = .int .i64 (q : Int) ∧ q ≤ el ∧ Aside0 (Half k n.joints js' i q) ∧ Aside0 (FI w n PA pc (some ad0) jc fl own js' wr)) (fun v22 _ => el - (intOf v22).toNat)
      case atStart => exact ⟨0, js', rfl, Nat.zero_le _, HH, HF⟩
      case round =>
        clear HH HF
        obtain ⟨q, js2, rfl, hq, HH, HF⟩ := hrel
        by_cases hlq : q < el
        · have hlt' : i < js2.length := by rw [HH.out.len]; exact hlt
          have hsm := HH.out.same i hlt
          have hqn : q < (n.joints.getD i default).ends.length := by rw [← HEL.out]; exact hlq
          have hat := HH.out.at hlt hqn
          obtain ⟨ad2, B2, cb2, e2, _, y2, hCe, hf1⟩ := HF.out.c.atJ i hlt'
          injection e2 with e2
          subst e2
          obtain ⟨g, cap, hf2, hbg, hgw, hcells, hCP⟩ := HF.out.c.side hlt' (by rw [hsm.2.2]; exact hqn) (1 - ((n.joints.getD i default).ends.getD q default).side)
          rw [hf1] at hf2
          injection hf2 with hf2
          simp only [Prod.mk.injEq, true_and] at hf2
          obtain ⟨rfl, rfl⟩ := hf2
          obtain ⟨ad1, e1, z0, z1⟩ := at_End hCe q (by rw [hsm.2.2]; exact hqn)
          injection e1 with e1
          subst e1
          rw [hat] at z0 z1
          rw [hsm.2.2, ← HEL.out] at y2
          have hsd2 := HSD.out _ (getD_mem n.joints i hlt) _ (getD_mem _ q hqn)
          obtain ⟨⟨ep, es⟩, hee⟩ : ∃ e, e = (n.joints.getD i default).ends.getD q default := ⟨_, rfl⟩
          rw [← hee] at z0 z1 hsd2 hCP
          have HEE := Aside0.mk hee
          have hx1 := HF.out.x.c 1 _ rfl
          rw [add_z] at z0 z1
          simp only at z1
          have zf : wr.frozen? ⟨g, q * 2 + 1, none⟩ = false := by
            obtain ⟨cells, hcc⟩ := hcells
            exact blk_frozen hcc _
          have hwrap : IntKind.i64.wrap (1 - es) = 1 - es := wrap64 (by rcases hsd2 with h | h <;> simp only at h <;> omega) (by rcases hsd2 with h | h <;> simp only at h <;> omega)
          have HCP := Aside0.mk hCP
          have HCL := Aside0.mk hcells
          have HHN := Aside0.mk (show _ from HH.out)
          clear hCP hcells hf1 hCe hat hee hsd2 hsm
          by_cases hk : ep = k
          · have hd : (ep == k) = true := by simpa using hk
            subst hk
            go_wp2_with fail
            go_region
            all_goals
              try go_wp2_with fail
              go_roundw
              case rel => exact ⟨q + 1, _, by go_num, by omega, ⟨HH.out.put hlt hqn (by rw [← HEE.out])⟩, ⟨by
                rw [← HEE.out]
                exact (HF.out.store hbg HCL.out HCP.out).below (below_drew (Below.refl _ _))⟩⟩
              case measure => simp [intOf]; omega
          · have hd : (ep == k) = false := by simpa using hk
            go_wp2_with fail
            go_roundw
            case rel => exact ⟨q + 1, js2, by go_num, by omega, ⟨HH.out.keep hlt hqn (by rw [← HEE.out]; exact hk)⟩, HF⟩
            case measure => simp [intOf]; omega
        · go_wp2_with fail
          go_roundw
          case rel => exact ⟨i + 1, js2, by go_num, by omega, ⟨HH.out.next hlt (by rw [← HEL.out]; omega)⟩, HF⟩
          case measure => simp [intOf]; omega
    · have hin : i = n.joints.length := by omega
      subst hin
      have hdone := HH.out.done (Nat.le_refl _)
      subst hdone
      have n0 := HF.out.x.c 0 _ rfl; have n1 := HF.out.x.c 1 _ rfl
      have z0 := HF.out.z.c 0 _ rfl; have z1 := HF.out.z.c 1 _ rfl; have zf0 := HF.out.z.f 0; have zf1 := HF.out.z.f 1; have zlt := HF.out.z.lt
      go_wp2_with fail
      refine bodyPost_ret (v := .agg #[.slice PA n.pieces.length pc, .slice JA n.joints.length jc]) (by simp [results, Try.results63, go_sem, z0, z1, zf0, zf1, zlt]) rfl ⟨((PA, pc), (JA, jc)), rfl, ⟨⟨?_, hpc⟩, ?_⟩, ?_⟩
      · exact (Kd.R_reads' (R_apart (R_apart HF.out.p (by show w.heap.size + 1 < _; omega) _) (by show w.heap.size + 1 < _; omega) _)).2.2
      · obtain ⟨A, c, hv, h1, h2⟩ := ((HF.out.c.apart (p := ⟨w.heap.size + 1, 0, none⟩) (by show w.heap.size + 1 < _; omega) (.slice PA n.pieces.length pc)).apart (p := ⟨w.heap.size + 1, 1, none⟩) (by show w.heap.size + 1 < _; omega) (.slice JA n.joints.length jc)).read
        injection hv with hv1 hv2 hv3
        subst hv1
        subst hv3
        exact ⟨h2, h1⟩
      · exact Below.setCell (Below.setCell HF.out.b (by show w.heap.size ≤ w.heap.size + 1; omega) _) (by show w.heap.size ≤ w.heap.size + 1; omega) _
end Go.Proofs.Ytckcffjnffcjcaa
