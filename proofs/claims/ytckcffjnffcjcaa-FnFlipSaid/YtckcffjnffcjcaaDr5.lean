/- Contract of l3drive: the reference's drive. Conditions: the net fits, is right, the lies are good, the spot lies in it. -/
import Derived.Test.YtckcffjnffcjcaaDr4
import Derived.Test.YtckcffjnffcjcaaDrvLoop
import Derived.Test.YtckcffjnffcjcaaTos
set_option linter.unusedVariables false
set_option linter.unusedSimpArgs false
namespace Go.Proofs.Ytckcffjnffcjcaa
open Go.RowKit Go.Proofs.YtckcffjnffcjcaaW.PrintWords
theorem Bx.under {W w1 : World} {base b : Nat} {vs : List Value} (h : Bx W b vs) (hb : Below base W w1) (hlt : b < base) : Bx w1 b vs :=
  ⟨Nat.lt_of_lt_of_le h.lt hb.size, fun i v hv => (hb.cell (p := ⟨b, i, none⟩) hlt).trans (h.c i v hv), fun i => (hb.frozen (p := ⟨b, i, none⟩) hlt).trans (h.f i)⟩
theorem below_lower {a b : Nat} {w w1 w2 : World} (h : Below a w w1) (k : Below b w1 w2) (hab : a ≤ b) : Below a w w2 :=
  h.trans ⟨k.os, k.tape, k.output, k.size, fun i hi => k.block i (Nat.lt_of_lt_of_le hi hab)⟩
section
variable {P : Program} {ops : Array Oper} {rest : List Oper} {o : Oper} {a : Act} {Q : Exit → Act → World → Prop} {W : World}
theorem gate_call {b : Builtin} {xs : Array Operand} {ts : Array TypeId} (_ho : o.op = .call { callee := .builtin b, args := xs, argTypes := ts }) (h : wpList P ops Q (o :: rest) a W) : wpList P ops Q (o :: rest) a W := h
end
def lenOf : Value → Nat | .slice _ n _ => n | _ => 0
def drvV (d : DrvT) : Value := .agg #[.int .i64 d.code, .int .i64 d.far, .int .i64 d.joint, .int .i64 d.spot.piece, .int .i64 d.spot.at_, .int .i64 d.spot.way]
theorem box4 (w : World) (a b c d : List Value) (s t r q : TypeId) : ∃ W0, W0 = (((w.alloc (.cells a.toArray s)).alloc (.cells b.toArray t)).alloc (.cells c.toArray r)).alloc (.cells d.toArray q) ∧ Bx W0 w.heap.size a ∧ Bx W0 (w.heap.size + 1) b ∧ Bx W0 (w.heap.size + 1 + 1) c ∧ Bx W0 (w.heap.size + 1 + 1 + 1) d ∧ Below w.heap.size w W0 ∧ W0.heap.size = w.heap.size + 1 + 1 + 1 + 1 := by
  obtain ⟨W0, h0, hN, hS, hX, fb⟩ := box3 w a b c s t r
  have hz : W0.heap.size = w.heap.size + 1 + 1 + 1 := by rw [h0]; simp
  refine ⟨_, rfl, ?_, ?_, ?_, ?_, ?_, ?_⟩
  · rw [← h0]; exact hN.alloc _
  · rw [← h0]; exact hS.alloc _
  · rw [← h0]; exact hX.alloc _
  · rw [← h0]; exact Bx.new' _ _ _ hz.symm
  · rw [← h0]; exact below_alloc fb _
  · rw [← h0]; simp [hz]
set_option maxRecDepth 100000 in
set_option maxHeartbeats 8000000 in
theorem l3drive_any (n : NetT) (u : (Option Addr × Nat) × (Option Addr × Nat)) (v : Option Addr × Nat) (lies : List Int) (s : SpotT) (left : Int) (w : World) (hr : RdNet 67 w u n) (hl : Kd.C (Kd.int .i64) w v.1 lies.length lies) (hg : Good n) (hlb : liesB n lies = true) (hs : spotB n s = true) (h0 : 0 ≤ left) (h1 : left ≤ 1000000) :
    Calls Try.prog 115 #[.agg #[.slice u.1.1 n.pieces.length u.1.2, .slice u.2.1 n.joints.length u.2.2], .slice v.1 lies.length v.2, .agg #[.int .i64 s.piece, .int .i64 s.at_, .int .i64 s.way], .int .i64 left] w
      fun e w' => ∃ v2, e = .returned (.tuple #[drvV (drv n lies 1000 s left), v2]) ∧ Kd.R kPart 89 w' w.heap.size (fun _ => True) v2 (drv n lies 1000 s left).parts ∧ Below w.heap.size w w' := by
  have HR := Aside0.mk hr
  have HL := Aside0.mk hl
  have HG := Aside0.mk hg
  have HLB := Aside0.mk hlb
  have HI := Aside0.mk (DI.start (n := n) (lies := lies) hs h0)
  have H0 := Aside0.mk h0
  clear hr hl hlb hs h0 hg
  obtain ⟨⟨A0, c0⟩, ⟨A1, c1⟩⟩ := u
  obtain ⟨A2, c2⟩ := v
  simp only at HL ⊢
  obtain ⟨W0, hW0, hN, hS, hZ, hD, fb0, hsz0⟩ := box4 w [.slice A0 n.pieces.length c0, .slice A1 n.joints.length c1] [.int .i64 s.piece, .int .i64 s.at_, .int .i64 s.way] [.int .i64 0, .int .i64 0, .int .i64 0, .int .i64 0, .int .i64 0, .int .i64 0] [.int .i64 0, .int .i64 0, .int .i64 (-1), .int .i64 s.piece, .int .i64 s.at_, .int .i64 s.way] 35 38 44 44
  have fb := Aside0.mk fb0
  have HN := Aside0.mk hN
  have HZ := Aside0.mk hZ
  have HD := Aside0.mk hD
  have HW := Aside0.mk hW0
  have HSZ := Aside0.mk hsz0
  clear hW0 fb0 hN hS hZ hD hsz0
  obtain ⟨base, hbase⟩ : ∃ b, b = w.heap.size + 1 + 1 + 1 + 1 := ⟨_, rfl⟩
  have HBS := Aside0.mk hbase
  clear hbase
  go_enter Try.func115, Try.ntmps115
  go_wp2
  rw [← HW.out]
  go_loopw [11, 12] (fun v11 v12 wr => ∃ (r : Nat) (far : Int) (t : SpotT) (ps : List PartT) (PA : Option Addr) (pc : Nat), v11 = .slice PA ps.length pc ∧ v12 = .int .i64 r ∧ r ≤ 1000 ∧ Aside0 (DI n lies s left r far t ps) ∧ Aside0 (Kd.R kPart 89 wr base (fun _ => True) (.slice PA ps.length pc) ps) ∧ Aside0 (Below w.heap.size w wr) ∧ Aside0 (Bx wr w.heap.size [.slice A0 n.pieces.length c0, .slice A1 n.joints.length c1]) ∧ Aside0 (Bx wr (w.heap.size + 1 + 1) [.int .i64 0, .int .i64 0, .int .i64 0, .int .i64 0, .int .i64 0, .int .i64 0]) ∧ Aside0 (Bx wr (w.heap.size + 1 + 1 + 1) [.int .i64 0, .int .i64 far, .int .i64 (-1), .int .i64 t.piece, .int .i64 t.at_, .int .i64 t.way])) (fun v11 v12 _ => 3000 - (lenOf v11 + (intOf v12).toNat))
  case atStart => exact ⟨0, 0, s, [], none, 0, rfl, rfl, by omega, HI, ⟨Kd.R_nil ..⟩, fb, HN, HZ, HD⟩
  case round =>
    clear HI HN HZ HD
    obtain ⟨r, far, t, ps, PA, pc, rfl, rfl, hr1, HI, HP, HB, HN, HZ, HD⟩ := hrel
    have hf0 := HI.out.f0
    have hf1 := HI.out.f1
    have hsp := HI.out.spot
    by_cases hlt : far < left
    · obtain ⟨hp0, hp1, hw, ha0, ha1⟩ := spotB_iff.1 hsp
      have hrb := roomS_bd HG.out hsp
      have hlen := (HG.out.len hp0 hp1).2
      have HSP := Aside0.mk hsp
      have HP0 := Aside0.mk hp0
      have HP1 := Aside0.mk hp1
      have HA0 := Aside0.mk ha0
      have HA1 := Aside0.mk ha1
      have HLE := Aside0.mk hlen
      clear hsp hp0 hp1
      by_cases hro : roomS n t = 0
      ·
        have hen := headE_ok HSP.out
        obtain ⟨i, q, hat⟩ := HG.out.at_ hen
        have HJ := Aside0.mk (show (atEnd n (headE t)).1 = (i : Int) from by rw [hat.eq])
        have HIO := Aside0.mk hat.i
        have HST := fun hc => HI.out.stop HG.out hlt hro hc
        have HFU := fun hc hk => HI.out.full HG.out hlt hro hc hk
        have HNX := fun hc hk => HI.out.joint HG.out HLB.out hlt hro hc hk
        have hov := fun hc => (HG.out.across hen (HG.out.over HLB.out hen hc)).1
        obtain ⟨⟨oc, op, os⟩, hO⟩ : ∃ z, z = overL n lies (headE t) := ⟨_, rfl⟩
        rw [← hO] at HST HFU HNX hov
        rw [HJ.out] at HST HFU
        simp only at HST HFU HNX hov
        have HST := Aside0.mk HST
        have HFU := Aside0.mk HFU
        have HNX := Aside0.mk HNX
        have HOV := Aside0.mk hov
        obtain ⟨⟨hp, hs⟩, hH⟩ : ∃ z, z = headE t := ⟨_, rfl⟩
        rw [← hH] at hO hen HIO HJ
        have HH := Aside0.mk hH
        have HO := Aside0.mk hO
        have HE := Aside0.mk hen
        have HFEW := Aside0.mk HI.out.few
        clear hat hov hO hH hen
        obtain ⟨tp, ta, tw⟩ := t
        simp only at HD
        have HRO := Aside0.mk hro
        clear hro hrb hw ha0 ha1 hlen hf0 hf1 h1
        have n0 := HN.out.c 0 _ rfl; have n1 := HN.out.c 1 _ rfl; have d0 := HD.out.c 0 _ rfl; have d1 := HD.out.c 1 _ rfl; have d2 := HD.out.c 2 _ rfl; have d3 := HD.out.c 3 _ rfl; have d4 := HD.out.c 4 _ rfl; have d5 := HD.out.c 5 _ rfl
        go_wp2_with (go_at_call 158; refine (l3room_any n ((A0, c0), (A1, c1)) ⟨tp, ta, tw⟩ _ (HR.out.below HB.out) HP0.out HP1.out HA0.out HA1.out HLE.out).mono ?_; rintro e w3 ⟨rfl, hb3⟩; rw [HRO.out]; have N3 := Aside0.mk (HN.out.below hb3); have Z3 := Aside0.mk (HZ.out.below hb3); have D3 := Aside0.mk (HD.out.below hb3); have B3 := Aside0.mk (below_more HB.out hb3); have P3 := Aside0.mk (Kd.R_below HP.out hb3); clear hb3 n0 n1 d0 d1 d2 d3 d4 d5)
        have P3u : Aside0 (Kd.R kPart 89 w3 base (fun k => k < w3.heap.size) (.slice PA ps.length pc) ps) := ⟨Kd.R_mono (Kd.R_bound P3.out) (fun _ hk => hk.2.2.1)⟩
        have HS3 : Aside0 (∀ W, Below w3.heap.size w3 W → (Below w3.heap.size w3 W ∧ W.cell? ⟨w.heap.size, 0, none⟩ = some (.slice A0 n.pieces.length c0) ∧ W.cell? ⟨w.heap.size, 1, none⟩ = some (.slice A1 n.joints.length c1) ∧ W.cell? ⟨w.heap.size + 1 + 1 + 1, 3, none⟩ = some (.int .i64 tp) ∧ W.cell? ⟨w.heap.size + 1 + 1 + 1, 4, none⟩ = some (.int .i64 ta) ∧ W.cell? ⟨w.heap.size + 1 + 1 + 1, 5, none⟩ = some (.int .i64 tw))) :=
          ⟨fun W hb => ⟨hb, (N3.out.below hb).c 0 _ rfl, (N3.out.below hb).c 1 _ rfl, (D3.out.below hb).c 3 _ rfl, (D3.out.below hb).c 4 _ rfl, (D3.out.below hb).c 5 _ rfl⟩⟩
        have hN3l := N3.out.lt
        have hZ3l := Z3.out.lt
        have hD3l := D3.out.lt
        go_cut [14, 15, 16] (fun s14 s15 s16 W5 => ∃ b5, s14 = .pointer (some ⟨b5, 0, none⟩) ∧ s15 = .int .i64 oc ∧ s16 = .int .i64 i ∧ Aside0 (Below w.heap.size w W5) ∧ Aside0 (Bx W5 w.heap.size [.slice A0 n.pieces.length c0, .slice A1 n.joints.length c1]) ∧ Aside0 (Bx W5 (w.heap.size + 1 + 1) [.int .i64 0, .int .i64 0, .int .i64 0, .int .i64 0, .int .i64 0, .int .i64 0]) ∧ Aside0 (Bx W5 (w.heap.size + 1 + 1 + 1) [.int .i64 0, .int .i64 far, .int .i64 (-1), .int .i64 tp, .int .i64 ta, .int .i64 tw]) ∧ Aside0 (Kd.R kPart 89 W5 base (fun _ => True) (.slice PA ps.length pc) ps) ∧ Aside0 (Bx W5 b5 [.int .i64 op, .int .i64 os]))
        case first =>
          go_region_held3 (fun W => Below w3.heap.size w3 W ∧ W.cell? ⟨w.heap.size, 0, none⟩ = some (.slice A0 n.pieces.length c0) ∧ W.cell? ⟨w.heap.size, 1, none⟩ = some (.slice A1 n.joints.length c1) ∧ W.cell? ⟨w.heap.size + 1 + 1 + 1, 3, none⟩ = some (.int .i64 tp) ∧ W.cell? ⟨w.heap.size + 1 + 1 + 1, 4, none⟩ = some (.int .i64 ta) ∧ W.cell? ⟨w.heap.size + 1 + 1 + 1, 5, none⟩ = some (.int .i64 tw))
            (first | assumption | exact HS3.out _ (by assumption) | exact HS3.out _ (Below.drew (Below.refl _ _)) | exact HS3.out _ (by repeat (first | assumption | (with_reducible refine below_set ?_ (Below.size (by assumption))) | (with_reducible refine below_set ?_ (Nat.le_refl _)) | (with_reducible refine below_alloc ?_ _) | (with_reducible refine below_drew ?_) | (with_reducible exact Below.refl _ _))))
            (first
              | (go_at_call 157; go_split_ands; refine Calls.mono (l3head_any ⟨tp, ta, tw⟩ _) ?_; rintro e w4 ⟨rfl, b3⟩; rw [← HH.out]; have q4 : Below w3.heap.size w3 w4 := below_more (by assumption) b3; have z4 := q4.size; (first | (have X4 := Aside0.mk ((Bx.new _ [.int .i64 0, .int .i64 0] 67).below b3)) | (have X4 := Aside0.mk ((Bx.drew (Bx.new _ [.int .i64 0, .int .i64 0] 67)).below b3)) | skip); clear b3)
              | (go_at_call 172; go_split_ands; refine Calls.mono (l3over_any n ((A0, c0), (A1, c1)) (A2, c2) lies ⟨hp, hs⟩ _ ((HR.out.below B3.out).below (by assumption)) (Kd.C_below (Kd.C_below HL.out B3.out) (by assumption)) HG.out HLB.out HE.out) ?_; rintro e w5 ⟨rfl, b3⟩; rw [← HO.out, HIO.out]; have q5 : Below w3.heap.size w3 w5 := below_more (by assumption) b3; have z5 := q5.size; (first | (have X5 := Aside0.mk (X4.out.below b3)) | (have X5 := Aside0.mk ((Bx.new _ [.int .i64 0, .int .i64 0] 67).below b3)) | skip); (first | (have x0 := X5.out.c 0 _ rfl; have x1 := X5.out.c 1 _ rfl; have xf0 := X5.out.f 0; have xf1 := X5.out.f 1; have xl := X5.out.lt) | skip); have B5 := Aside0.mk (below_more B3.out q5); have N5 := Aside0.mk (N3.out.below q5); have Z5 := Aside0.mk (Z3.out.below q5); have D5 := Aside0.mk (D3.out.below q5); have P5 := Aside0.mk (Kd.R_below P3.out q5); have U5 := Aside0.mk (Kd.R_below P3u.out q5); clear b3))
          all_goals
            try go_wp2_with fail
            go_meet
            case rel =>
              first
                | (refine ⟨_, rfl, rfl, rfl, ⟨below_alloc B5.out _⟩, ⟨N5.out.alloc _⟩, ⟨Z5.out.alloc _⟩, ⟨D5.out.alloc _⟩, ⟨Kd.R_alloc P5.out _⟩, ⟨Bx.new' _ _ _ rfl⟩⟩; done)
                | (refine ⟨_, rfl, rfl, rfl, ⟨?_⟩, ⟨?_⟩, ⟨?_⟩, ⟨?_⟩, ⟨?_⟩, ⟨?_⟩⟩
                   · repeat (first | (with_reducible exact B5.out) | (with_reducible refine below_set ?_ (by omega)))
                   · repeat (first | (with_reducible exact N5.out) | (with_reducible refine Bx.far ?_ (by omega) _))
                   · repeat (first | (with_reducible exact Z5.out) | (with_reducible refine Bx.far ?_ (by omega) _))
                   · repeat (first | (with_reducible exact D5.out) | (with_reducible refine Bx.far ?_ (by omega) _))
                   · exact Kd.R_mono (Kd.R_far (Kd.R_far U5.out (fun k hk he => by have h2 : k < w3.heap.size := hk; simp only at he; omega) _) (fun k hk he => by have h2 : k < w3.heap.size := hk; simp only at he; omega) _) (fun _ _ => trivial)
                   · exact ((X5.out.set (i := 0) (by simp) _).set (i := 1) (by simp) _))
        case rest =>
        obtain ⟨b5, rfl, rfl, rfl, B6, N6, Z6, D6, P6, X6⟩ := hcut
        have n0 := N6.out.c 0 _ rfl; have n1 := N6.out.c 1 _ rfl; have x0 := X6.out.c 0 _ rfl; have x1 := X6.out.c 1 _ rfl
        have d0 := D6.out.c 0 _ rfl; have d1 := D6.out.c 1 _ rfl; have d2 := D6.out.c 2 _ rfl; have d3 := D6.out.c 3 _ rfl; have d4 := D6.out.c 4 _ rfl; have d5 := D6.out.c 5 _ rfl; have df0 := D6.out.f 0; have df1 := D6.out.f 1; have df2 := D6.out.f 2; have df3 := D6.out.f 3; have df4 := D6.out.f 4; have df5 := D6.out.f 5
        by_cases hoc : oc = 0
        · by_cases hrk : r = 1000
          · have HV := Aside0.mk (HFU.out hoc hrk)
            subst hrk
            subst hoc
            have z0 := Z6.out.c 0 _ rfl; have z1 := Z6.out.c 1 _ rfl; have z2 := Z6.out.c 2 _ rfl; have z3 := Z6.out.c 3 _ rfl; have z4 := Z6.out.c 4 _ rfl; have z5 := Z6.out.c 5 _ rfl; have zf0 := Z6.out.f 0; have zf1 := Z6.out.f 1; have zf2 := Z6.out.f 2; have zf3 := Z6.out.f 3; have zf4 := Z6.out.f 4; have zf5 := Z6.out.f 5; have zlt := Z6.out.lt
            go_wp2
            refine bodyPost_ret (v := .tuple #[.agg #[.int .i64 (5), .int .i64 far, .int .i64 (i), .int .i64 tp, .int .i64 ta, .int .i64 tw], .slice PA ps.length pc]) (by simp [results, Try.results115, go_sem, z0, z1, z2, z3, z4, z5, zf0, zf1, zf2, zf3, zf4, zf5, zlt]) rfl ⟨_, by first | (rw [HV.out]; rfl) | rfl, ?_, ?_⟩
            · try rw [HV.out]
              refine Kd.R_lower (base := base) ?_ (by rw [HBS.out]; omega)
              repeat (first | (with_reducible exact P6.out) | refine R_apart ?_ (by rw [HBS.out]; simp) _)
            · repeat (first | (with_reducible exact B6.out) | (with_reducible refine below_set ?_ (show w.heap.size ≤ w.heap.size + 1 + 1 by omega)) | (with_reducible refine below_set ?_ (show w.heap.size ≤ w.heap.size + 1 + 1 + 1 by omega)))
          · obtain ⟨⟨ep, ea, ew⟩, hEn⟩ : ∃ z, z = enterS n ⟨op, os⟩ := ⟨_, rfl⟩
            have HEN := Aside0.mk hEn
            have hob := HOV.out hoc
            have hpc := enterS_piece n ⟨op, os⟩
            have hsb := spotB_iff.1 (enterS_ok HG.out hob)
            rw [hpc] at hsb
            have HO0 : Aside0 ((0 : Int) ≤ op) := ⟨hsb.1⟩
            have HO1 : Aside0 (op < (n.pieces.length : Int)) := ⟨hsb.2.1⟩
            have HDI := Aside0.mk (HNX.out hoc hrk)
            have hrb : ((r : Int) == 1000) = false := by simp; omega
            have hr2 : r < 1000 := by omega
            clear hpc hsb hob hEn hrk
            subst hoc
            go_wp2_with (go_at_call 143; refine (l3enter_any n ((A0, c0), (A1, c1)) ⟨op, os⟩ _ (HR.out.below B6.out) HO0.out HO1.out).mono ?_; rintro e w7 ⟨rfl, hb7⟩; rw [← HEN.out]; have N7 := Aside0.mk (N6.out.below hb7); have Z7 := Aside0.mk (Z6.out.below hb7); have D7 := Aside0.mk (D6.out.below hb7); have B7 := Aside0.mk (below_more B6.out hb7); have P7 := Aside0.mk (Kd.R_below P6.out hb7); clear hb7 n0 n1 x0 x1 d0 d1 d2 d3 d4 d5 df0 df1 df2 df3 df4 df5; have d0 := D7.out.c 0 _ rfl; have d1 := D7.out.c 1 _ rfl; have d2 := D7.out.c 2 _ rfl; have d3 := D7.out.c 3 _ rfl; have d4 := D7.out.c 4 _ rfl; have d5 := D7.out.c 5 _ rfl; have df0 := D7.out.f 0; have df1 := D7.out.f 1; have df2 := D7.out.f 2; have df3 := D7.out.f 3; have df4 := D7.out.f 4; have df5 := D7.out.f 5)
            go_roundw
            case rel => exact ⟨r + 1, far, ⟨ep, ea, ew⟩, ps, PA, pc, rfl, by go_num, by omega, ⟨by rw [HEN.out]; exact HDI.out⟩, ⟨by repeat (first | (with_reducible exact P7.out) | refine R_apart ?_ (by rw [HBS.out]; simp) _)⟩, ⟨by repeat (first | (with_reducible exact B7.out) | (with_reducible refine below_set ?_ (show w.heap.size ≤ w.heap.size + 1 + 1 + 1 by omega)))⟩, ⟨by repeat (first | (with_reducible exact N7.out) | (with_reducible refine Bx.far ?_ (by omega) _))⟩, ⟨by repeat (first | (with_reducible exact Z7.out) | (with_reducible refine Bx.far ?_ (by omega) _))⟩, ⟨(((D7.out.set (i := 3) (by simp) _).set (i := 4) (by simp) _).set (i := 5) (by simp) _)⟩⟩
            case measure => have := HFEW.out; simp only [lenOf, intOf]; omega
        · have HV := Aside0.mk (HST.out hoc)
          have hocb : (oc != 0) = true := by simpa using hoc
          have z0 := Z6.out.c 0 _ rfl; have z1 := Z6.out.c 1 _ rfl; have z2 := Z6.out.c 2 _ rfl; have z3 := Z6.out.c 3 _ rfl; have z4 := Z6.out.c 4 _ rfl; have z5 := Z6.out.c 5 _ rfl; have zf0 := Z6.out.f 0; have zf1 := Z6.out.f 1; have zf2 := Z6.out.f 2; have zf3 := Z6.out.f 3; have zf4 := Z6.out.f 4; have zf5 := Z6.out.f 5; have zlt := Z6.out.lt
          go_wp2
          refine bodyPost_ret (v := .tuple #[.agg #[.int .i64 (oc), .int .i64 far, .int .i64 (i), .int .i64 tp, .int .i64 ta, .int .i64 tw], .slice PA ps.length pc]) (by simp [results, Try.results115, go_sem, z0, z1, z2, z3, z4, z5, zf0, zf1, zf2, zf3, zf4, zf5, zlt]) rfl ⟨_, by first | (rw [HV.out]; rfl) | rfl, ?_, ?_⟩
          · try rw [HV.out]
            refine Kd.R_lower (base := base) ?_ (by rw [HBS.out]; omega)
            repeat (first | (with_reducible exact P6.out) | refine R_apart ?_ (by rw [HBS.out]; simp) _)
          · repeat (first | (with_reducible exact B6.out) | (with_reducible refine below_set ?_ (show w.heap.size ≤ w.heap.size + 1 + 1 by omega)) | (with_reducible refine below_set ?_ (show w.heap.size ≤ w.heap.size + 1 + 1 + 1 by omega)))
      · obtain ⟨HI2, hfew⟩ := HI.out.move HG.out hlt hro
        have hLb := legOf_bd HG.out HSP.out (left := left - far) (by omega)
        have HI3 := Aside0.mk HI2
        clear HI2
        obtain ⟨tp, ta, tw⟩ := t
        simp only at HD HP0 HP1 HA0 HA1 hw ha0 ha1 HLE
        obtain ⟨R, hR⟩ : ∃ R, R = roomS n ⟨tp, ta, tw⟩ := ⟨_, rfl⟩
        have HRO := Aside0.mk hR
        obtain ⟨D, hD⟩ : ∃ D, D = left - far := ⟨_, rfl⟩
        have HDL := Aside0.mk hD
        have hwD : IntKind.i64.wrap (left - far) = D := by rw [wrap64 (by omega) (by omega), hD]
        rw [← hD, ← hR] at hLb
        rw [← hR] at hro hrb
        have hL : legOf n ⟨tp, ta, tw⟩ (left - far) = min R D := by unfold legOf; rw [hR, hD]
        have HLG := Aside0.mk hL
        clear hL hLb
        have hta : ta ≤ 10000000 := by have q1 : lenP n tp ≤ 10000000 := HLE.out; have q2 : ta ≤ lenP n tp := HA1.out; omega
        have hDb : 0 < D ∧ D ≤ 1000000 := by omega
        clear hR hD ha1
        obtain ⟨hD0, hD1⟩ := hDb
        obtain ⟨hR0, hR1⟩ := hrb
        have HFE := Aside0.mk hfew
        have hRb : (R == 0) = false := by simpa using hro
        by_cases hRD : D < R
        ·
          have hX : min R D = D := by omega
          have HX := Aside0.mk hX
          clear hX
          have hX0 : 0 < D := by omega
          have hX1 : D ≤ 10000000 := by omega
          obtain ⟨F, hF⟩ : ∃ F, F = far + D := ⟨_, rfl⟩
          have HF := Aside0.mk hF
          have hwF : IntKind.i64.wrap (far + D) = F := by rw [wrap64 (by omega) (by omega), hF]
          clear hF
          rcases hw with rfl | rfl
          ·
            obtain ⟨M, hM⟩ : ∃ M, M = D * (1) := ⟨_, rfl⟩
            have hwM : IntKind.i64.wrap (D) = M := by rw [wrap64 (by omega) (by omega), hM]; omega
            obtain ⟨B, hB⟩ : ∃ B, B = ta + M := ⟨_, rfl⟩
            have hwB : IntKind.i64.wrap (ta + M) = B := by rw [wrap64 (by omega) (by omega), hB]
            have hcmp : ¬ B < ta := by omega
            have HPT : Aside0 (partOf ⟨tp, ta, 1⟩ D = ⟨tp, ta, B⟩) := ⟨by unfold partOf; simp only [PartT.mk.injEq, true_and]; omega⟩
            have HMV : Aside0 (moveS ⟨tp, ta, 1⟩ D = ⟨tp, B, 1⟩) := ⟨by unfold moveS; simp only [SpotT.mk.injEq, true_and, and_true]; omega⟩
            clear hM hB
            have n0 := HN.out.c 0 _ rfl; have n1 := HN.out.c 1 _ rfl; have d0 := HD.out.c 0 _ rfl; have d1 := HD.out.c 1 _ rfl; have d2 := HD.out.c 2 _ rfl; have d3 := HD.out.c 3 _ rfl; have d4 := HD.out.c 4 _ rfl; have d5 := HD.out.c 5 _ rfl
            clear hR0 hR1 hD0 hD1 hX0 hX1 hta ha0 hf0 hf1 hfew h1
            go_wp2_with (first | (go_at_call 158; refine (l3room_any n ((A0, c0), (A1, c1)) ⟨tp, ta, 1⟩ _ (HR.out.below HB.out) HP0.out HP1.out HA0.out HA1.out HLE.out).mono ?_; rintro e w3 ⟨rfl, hb3⟩; rw [← HRO.out]; have N3 := Aside0.mk (HN.out.below hb3); have Z3 := Aside0.mk (HZ.out.below hb3); have D3 := Aside0.mk (HD.out.below hb3); have B3 := Aside0.mk (below_more HB.out hb3); have P3 := Aside0.mk (Kd.R_below HP.out hb3); clear hb3 n0 n1 d0 d1 d2 d3 d4 d5; have n0 := N3.out.c 0 _ rfl; have n1 := N3.out.c 1 _ rfl; have d0 := D3.out.c 0 _ rfl; have d1 := D3.out.c 1 _ rfl; have d2 := D3.out.c 2 _ rfl; have d3 := D3.out.c 3 _ rfl; have d4 := D3.out.c 4 _ rfl; have d5 := D3.out.c 5 _ rfl; have df0 := D3.out.f 0; have df1 := D3.out.f 1; have df2 := D3.out.f 2; have df3 := D3.out.f 3; have df4 := D3.out.f 4; have df5 := D3.out.f 5) | ((with_reducible refine gate_call (b := .append) (xs := #[.tmp 101, .tmp 108]) rfl ?_); at_builtin; refine Kd.R_append kPart (w0 := (w3.setCell ⟨w.heap.size + 1 + 1 + 1, 4, none⟩ (.int .i64 B)).setCell ⟨w.heap.size + 1 + 1 + 1, 1, none⟩ (.int .i64 F)) base rfl (.tmp 101) (.tmp 108) 26 89 (.agg #[.int .i64 0, .int .i64 0, .int .i64 0]) 24 rfl Try.underlying26 info89 rfl (by decide) (by omega) (.slice PA ps.length pc) ps ⟨tp, ta, B⟩ [.int .i64 tp, .int .i64 ta, .int .i64 B] (fun _ => True) (fun _ => False) rfl (by first | (go_simp; done) | (go_simp; rfl)) (kPart_mkM _ _ _ _) (fun _ hk => hk.elim) (fun _ _ => trivial) (R_apart (R_apart P3.out (by rw [HBS.out]; simp) _) (by rw [HBS.out]; simp) _) (Below.refl _ _) (by have := D3.out.lt; rw [HBS.out]; simp; omega) (by have := HFE.out; omega) ?_; intro v1 w5 hP5 hB5 hg5 hat5; clear hg5 hat5; obtain ⟨PA1, pc1, rfl⟩ := Kd.R_slice hP5; have P5 := Aside0.mk hP5; have N5 := Aside0.mk (((N3.out.far (by omega) _).far (by omega) _).under hB5 (by rw [HBS.out]; omega)); have Z5 := Aside0.mk (((Z3.out.far (by omega) _).far (by omega) _).under hB5 (by rw [HBS.out]; omega)); have D5 : Aside0 (Bx w5 (w.heap.size + 1 + 1 + 1) [.int .i64 0, .int .i64 F, .int .i64 (-1), .int .i64 tp, .int .i64 B, .int .i64 (1)]) := ⟨((D3.out.set (i := 4) (by simp) _).set (i := 1) (by simp) _).under hB5 (by rw [HBS.out]; omega)⟩; have B5 := Aside0.mk (below_lower (a := w.heap.size) (below_set (below_set B3.out (show w.heap.size ≤ w.heap.size + 1 + 1 + 1 by omega)) (show w.heap.size ≤ w.heap.size + 1 + 1 + 1 by omega)) hB5 (by rw [HBS.out]; omega)); clear hP5 hB5))
            go_roundw
            case rel => exact ⟨r, F, ⟨tp, B, 1⟩, ps ++ [⟨tp, ta, B⟩], PA1, pc1, by simp, rfl, hr1, ⟨by have := HI3.out; rw [HLG.out, HX.out, HPT.out, HMV.out, ← HF.out] at this; exact this⟩, P5, B5, N5, Z5, D5⟩
            case measure => have := HFE.out; simp only [lenOf, intOf, List.length_append, List.length_singleton]; omega
          ·
            obtain ⟨M, hM⟩ : ∃ M, M = D * (-1) := ⟨_, rfl⟩
            have hwM : IntKind.i64.wrap (-D) = M := by rw [wrap64 (by omega) (by omega), hM]; omega
            obtain ⟨B, hB⟩ : ∃ B, B = ta + M := ⟨_, rfl⟩
            have hwB : IntKind.i64.wrap (ta + M) = B := by rw [wrap64 (by omega) (by omega), hB]
            have hcmp : B < ta := by omega
            have HPT : Aside0 (partOf ⟨tp, ta, -1⟩ D = ⟨tp, B, ta⟩) := ⟨by unfold partOf; simp only [PartT.mk.injEq, true_and]; omega⟩
            have HMV : Aside0 (moveS ⟨tp, ta, -1⟩ D = ⟨tp, B, -1⟩) := ⟨by unfold moveS; simp only [SpotT.mk.injEq, true_and, and_true]; omega⟩
            clear hM hB
            have n0 := HN.out.c 0 _ rfl; have n1 := HN.out.c 1 _ rfl; have d0 := HD.out.c 0 _ rfl; have d1 := HD.out.c 1 _ rfl; have d2 := HD.out.c 2 _ rfl; have d3 := HD.out.c 3 _ rfl; have d4 := HD.out.c 4 _ rfl; have d5 := HD.out.c 5 _ rfl
            clear hR0 hR1 hD0 hD1 hX0 hX1 hta ha0 hf0 hf1 hfew h1
            go_wp2_with (first | (go_at_call 158; refine (l3room_any n ((A0, c0), (A1, c1)) ⟨tp, ta, -1⟩ _ (HR.out.below HB.out) HP0.out HP1.out HA0.out HA1.out HLE.out).mono ?_; rintro e w3 ⟨rfl, hb3⟩; rw [← HRO.out]; have N3 := Aside0.mk (HN.out.below hb3); have Z3 := Aside0.mk (HZ.out.below hb3); have D3 := Aside0.mk (HD.out.below hb3); have B3 := Aside0.mk (below_more HB.out hb3); have P3 := Aside0.mk (Kd.R_below HP.out hb3); clear hb3 n0 n1 d0 d1 d2 d3 d4 d5; have n0 := N3.out.c 0 _ rfl; have n1 := N3.out.c 1 _ rfl; have d0 := D3.out.c 0 _ rfl; have d1 := D3.out.c 1 _ rfl; have d2 := D3.out.c 2 _ rfl; have d3 := D3.out.c 3 _ rfl; have d4 := D3.out.c 4 _ rfl; have d5 := D3.out.c 5 _ rfl; have df0 := D3.out.f 0; have df1 := D3.out.f 1; have df2 := D3.out.f 2; have df3 := D3.out.f 3; have df4 := D3.out.f 4; have df5 := D3.out.f 5) | ((with_reducible refine gate_call (b := .append) (xs := #[.tmp 101, .tmp 108]) rfl ?_); at_builtin; refine Kd.R_append kPart (w0 := (w3.setCell ⟨w.heap.size + 1 + 1 + 1, 4, none⟩ (.int .i64 B)).setCell ⟨w.heap.size + 1 + 1 + 1, 1, none⟩ (.int .i64 F)) base rfl (.tmp 101) (.tmp 108) 26 89 (.agg #[.int .i64 0, .int .i64 0, .int .i64 0]) 24 rfl Try.underlying26 info89 rfl (by decide) (by omega) (.slice PA ps.length pc) ps ⟨tp, B, ta⟩ [.int .i64 tp, .int .i64 B, .int .i64 ta] (fun _ => True) (fun _ => False) rfl (by first | (go_simp; done) | (go_simp; rfl)) (kPart_mkM _ _ _ _) (fun _ hk => hk.elim) (fun _ _ => trivial) (R_apart (R_apart P3.out (by rw [HBS.out]; simp) _) (by rw [HBS.out]; simp) _) (Below.refl _ _) (by have := D3.out.lt; rw [HBS.out]; simp; omega) (by have := HFE.out; omega) ?_; intro v1 w5 hP5 hB5 hg5 hat5; clear hg5 hat5; obtain ⟨PA1, pc1, rfl⟩ := Kd.R_slice hP5; have P5 := Aside0.mk hP5; have N5 := Aside0.mk (((N3.out.far (by omega) _).far (by omega) _).under hB5 (by rw [HBS.out]; omega)); have Z5 := Aside0.mk (((Z3.out.far (by omega) _).far (by omega) _).under hB5 (by rw [HBS.out]; omega)); have D5 : Aside0 (Bx w5 (w.heap.size + 1 + 1 + 1) [.int .i64 0, .int .i64 F, .int .i64 (-1), .int .i64 tp, .int .i64 B, .int .i64 (-1)]) := ⟨((D3.out.set (i := 4) (by simp) _).set (i := 1) (by simp) _).under hB5 (by rw [HBS.out]; omega)⟩; have B5 := Aside0.mk (below_lower (a := w.heap.size) (below_set (below_set B3.out (show w.heap.size ≤ w.heap.size + 1 + 1 + 1 by omega)) (show w.heap.size ≤ w.heap.size + 1 + 1 + 1 by omega)) hB5 (by rw [HBS.out]; omega)); clear hP5 hB5))
            go_roundw
            case rel => exact ⟨r, F, ⟨tp, B, -1⟩, ps ++ [⟨tp, B, ta⟩], PA1, pc1, by simp, rfl, hr1, ⟨by have := HI3.out; rw [HLG.out, HX.out, HPT.out, HMV.out, ← HF.out] at this; exact this⟩, P5, B5, N5, Z5, D5⟩
            case measure => have := HFE.out; simp only [lenOf, intOf, List.length_append, List.length_singleton]; omega
        ·
          have hX : min R D = R := by omega
          have HX := Aside0.mk hX
          clear hX
          have hX0 : 0 < R := by omega
          have hX1 : R ≤ 10000000 := by omega
          obtain ⟨F, hF⟩ : ∃ F, F = far + R := ⟨_, rfl⟩
          have HF := Aside0.mk hF
          have hwF : IntKind.i64.wrap (far + R) = F := by rw [wrap64 (by omega) (by omega), hF]
          clear hF
          rcases hw with rfl | rfl
          ·
            obtain ⟨M, hM⟩ : ∃ M, M = R * (1) := ⟨_, rfl⟩
            have hwM : IntKind.i64.wrap (R) = M := by rw [wrap64 (by omega) (by omega), hM]; omega
            obtain ⟨B, hB⟩ : ∃ B, B = ta + M := ⟨_, rfl⟩
            have hwB : IntKind.i64.wrap (ta + M) = B := by rw [wrap64 (by omega) (by omega), hB]
            have hcmp : ¬ B < ta := by omega
            have HPT : Aside0 (partOf ⟨tp, ta, 1⟩ R = ⟨tp, ta, B⟩) := ⟨by unfold partOf; simp only [PartT.mk.injEq, true_and]; omega⟩
            have HMV : Aside0 (moveS ⟨tp, ta, 1⟩ R = ⟨tp, B, 1⟩) := ⟨by unfold moveS; simp only [SpotT.mk.injEq, true_and, and_true]; omega⟩
            clear hM hB
            have n0 := HN.out.c 0 _ rfl; have n1 := HN.out.c 1 _ rfl; have d0 := HD.out.c 0 _ rfl; have d1 := HD.out.c 1 _ rfl; have d2 := HD.out.c 2 _ rfl; have d3 := HD.out.c 3 _ rfl; have d4 := HD.out.c 4 _ rfl; have d5 := HD.out.c 5 _ rfl
            clear hR0 hR1 hD0 hD1 hX0 hX1 hta ha0 hf0 hf1 hfew h1
            go_wp2_with (first | (go_at_call 158; refine (l3room_any n ((A0, c0), (A1, c1)) ⟨tp, ta, 1⟩ _ (HR.out.below HB.out) HP0.out HP1.out HA0.out HA1.out HLE.out).mono ?_; rintro e w3 ⟨rfl, hb3⟩; rw [← HRO.out]; have N3 := Aside0.mk (HN.out.below hb3); have Z3 := Aside0.mk (HZ.out.below hb3); have D3 := Aside0.mk (HD.out.below hb3); have B3 := Aside0.mk (below_more HB.out hb3); have P3 := Aside0.mk (Kd.R_below HP.out hb3); clear hb3 n0 n1 d0 d1 d2 d3 d4 d5; have n0 := N3.out.c 0 _ rfl; have n1 := N3.out.c 1 _ rfl; have d0 := D3.out.c 0 _ rfl; have d1 := D3.out.c 1 _ rfl; have d2 := D3.out.c 2 _ rfl; have d3 := D3.out.c 3 _ rfl; have d4 := D3.out.c 4 _ rfl; have d5 := D3.out.c 5 _ rfl; have df0 := D3.out.f 0; have df1 := D3.out.f 1; have df2 := D3.out.f 2; have df3 := D3.out.f 3; have df4 := D3.out.f 4; have df5 := D3.out.f 5) | ((with_reducible refine gate_call (b := .append) (xs := #[.tmp 101, .tmp 108]) rfl ?_); at_builtin; refine Kd.R_append kPart (w0 := (w3.setCell ⟨w.heap.size + 1 + 1 + 1, 4, none⟩ (.int .i64 B)).setCell ⟨w.heap.size + 1 + 1 + 1, 1, none⟩ (.int .i64 F)) base rfl (.tmp 101) (.tmp 108) 26 89 (.agg #[.int .i64 0, .int .i64 0, .int .i64 0]) 24 rfl Try.underlying26 info89 rfl (by decide) (by omega) (.slice PA ps.length pc) ps ⟨tp, ta, B⟩ [.int .i64 tp, .int .i64 ta, .int .i64 B] (fun _ => True) (fun _ => False) rfl (by first | (go_simp; done) | (go_simp; rfl)) (kPart_mkM _ _ _ _) (fun _ hk => hk.elim) (fun _ _ => trivial) (R_apart (R_apart P3.out (by rw [HBS.out]; simp) _) (by rw [HBS.out]; simp) _) (Below.refl _ _) (by have := D3.out.lt; rw [HBS.out]; simp; omega) (by have := HFE.out; omega) ?_; intro v1 w5 hP5 hB5 hg5 hat5; clear hg5 hat5; obtain ⟨PA1, pc1, rfl⟩ := Kd.R_slice hP5; have P5 := Aside0.mk hP5; have N5 := Aside0.mk (((N3.out.far (by omega) _).far (by omega) _).under hB5 (by rw [HBS.out]; omega)); have Z5 := Aside0.mk (((Z3.out.far (by omega) _).far (by omega) _).under hB5 (by rw [HBS.out]; omega)); have D5 : Aside0 (Bx w5 (w.heap.size + 1 + 1 + 1) [.int .i64 0, .int .i64 F, .int .i64 (-1), .int .i64 tp, .int .i64 B, .int .i64 (1)]) := ⟨((D3.out.set (i := 4) (by simp) _).set (i := 1) (by simp) _).under hB5 (by rw [HBS.out]; omega)⟩; have B5 := Aside0.mk (below_lower (a := w.heap.size) (below_set (below_set B3.out (show w.heap.size ≤ w.heap.size + 1 + 1 + 1 by omega)) (show w.heap.size ≤ w.heap.size + 1 + 1 + 1 by omega)) hB5 (by rw [HBS.out]; omega)); clear hP5 hB5))
            go_roundw
            case rel => exact ⟨r, F, ⟨tp, B, 1⟩, ps ++ [⟨tp, ta, B⟩], PA1, pc1, by simp, rfl, hr1, ⟨by have := HI3.out; rw [HLG.out, HX.out, HPT.out, HMV.out, ← HF.out] at this; exact this⟩, P5, B5, N5, Z5, D5⟩
            case measure => have := HFE.out; simp only [lenOf, intOf, List.length_append, List.length_singleton]; omega
          ·
            obtain ⟨M, hM⟩ : ∃ M, M = R * (-1) := ⟨_, rfl⟩
            have hwM : IntKind.i64.wrap (-R) = M := by rw [wrap64 (by omega) (by omega), hM]; omega
            obtain ⟨B, hB⟩ : ∃ B, B = ta + M := ⟨_, rfl⟩
            have hwB : IntKind.i64.wrap (ta + M) = B := by rw [wrap64 (by omega) (by omega), hB]
            have hcmp : B < ta := by omega
            have HPT : Aside0 (partOf ⟨tp, ta, -1⟩ R = ⟨tp, B, ta⟩) := ⟨by unfold partOf; simp only [PartT.mk.injEq, true_and]; omega⟩
            have HMV : Aside0 (moveS ⟨tp, ta, -1⟩ R = ⟨tp, B, -1⟩) := ⟨by unfold moveS; simp only [SpotT.mk.injEq, true_and, and_true]; omega⟩
            clear hM hB
            have n0 := HN.out.c 0 _ rfl; have n1 := HN.out.c 1 _ rfl; have d0 := HD.out.c 0 _ rfl; have d1 := HD.out.c 1 _ rfl; have d2 := HD.out.c 2 _ rfl; have d3 := HD.out.c 3 _ rfl; have d4 := HD.out.c 4 _ rfl; have d5 := HD.out.c 5 _ rfl
            clear hR0 hR1 hD0 hD1 hX0 hX1 hta ha0 hf0 hf1 hfew h1
            go_wp2_with (first | (go_at_call 158; refine (l3room_any n ((A0, c0), (A1, c1)) ⟨tp, ta, -1⟩ _ (HR.out.below HB.out) HP0.out HP1.out HA0.out HA1.out HLE.out).mono ?_; rintro e w3 ⟨rfl, hb3⟩; rw [← HRO.out]; have N3 := Aside0.mk (HN.out.below hb3); have Z3 := Aside0.mk (HZ.out.below hb3); have D3 := Aside0.mk (HD.out.below hb3); have B3 := Aside0.mk (below_more HB.out hb3); have P3 := Aside0.mk (Kd.R_below HP.out hb3); clear hb3 n0 n1 d0 d1 d2 d3 d4 d5; have n0 := N3.out.c 0 _ rfl; have n1 := N3.out.c 1 _ rfl; have d0 := D3.out.c 0 _ rfl; have d1 := D3.out.c 1 _ rfl; have d2 := D3.out.c 2 _ rfl; have d3 := D3.out.c 3 _ rfl; have d4 := D3.out.c 4 _ rfl; have d5 := D3.out.c 5 _ rfl; have df0 := D3.out.f 0; have df1 := D3.out.f 1; have df2 := D3.out.f 2; have df3 := D3.out.f 3; have df4 := D3.out.f 4; have df5 := D3.out.f 5) | ((with_reducible refine gate_call (b := .append) (xs := #[.tmp 101, .tmp 108]) rfl ?_); at_builtin; refine Kd.R_append kPart (w0 := (w3.setCell ⟨w.heap.size + 1 + 1 + 1, 4, none⟩ (.int .i64 B)).setCell ⟨w.heap.size + 1 + 1 + 1, 1, none⟩ (.int .i64 F)) base rfl (.tmp 101) (.tmp 108) 26 89 (.agg #[.int .i64 0, .int .i64 0, .int .i64 0]) 24 rfl Try.underlying26 info89 rfl (by decide) (by omega) (.slice PA ps.length pc) ps ⟨tp, B, ta⟩ [.int .i64 tp, .int .i64 B, .int .i64 ta] (fun _ => True) (fun _ => False) rfl (by first | (go_simp; done) | (go_simp; rfl)) (kPart_mkM _ _ _ _) (fun _ hk => hk.elim) (fun _ _ => trivial) (R_apart (R_apart P3.out (by rw [HBS.out]; simp) _) (by rw [HBS.out]; simp) _) (Below.refl _ _) (by have := D3.out.lt; rw [HBS.out]; simp; omega) (by have := HFE.out; omega) ?_; intro v1 w5 hP5 hB5 hg5 hat5; clear hg5 hat5; obtain ⟨PA1, pc1, rfl⟩ := Kd.R_slice hP5; have P5 := Aside0.mk hP5; have N5 := Aside0.mk (((N3.out.far (by omega) _).far (by omega) _).under hB5 (by rw [HBS.out]; omega)); have Z5 := Aside0.mk (((Z3.out.far (by omega) _).far (by omega) _).under hB5 (by rw [HBS.out]; omega)); have D5 : Aside0 (Bx w5 (w.heap.size + 1 + 1 + 1) [.int .i64 0, .int .i64 F, .int .i64 (-1), .int .i64 tp, .int .i64 B, .int .i64 (-1)]) := ⟨((D3.out.set (i := 4) (by simp) _).set (i := 1) (by simp) _).under hB5 (by rw [HBS.out]; omega)⟩; have B5 := Aside0.mk (below_lower (a := w.heap.size) (below_set (below_set B3.out (show w.heap.size ≤ w.heap.size + 1 + 1 + 1 by omega)) (show w.heap.size ≤ w.heap.size + 1 + 1 + 1 by omega)) hB5 (by rw [HBS.out]; omega)); clear hP5 hB5))
            go_roundw
            case rel => exact ⟨r, F, ⟨tp, B, -1⟩, ps ++ [⟨tp, B, ta⟩], PA1, pc1, by simp, rfl, hr1, ⟨by have := HI3.out; rw [HLG.out, HX.out, HPT.out, HMV.out, ← HF.out] at this; exact this⟩, P5, B5, N5, Z5, D5⟩
            case measure => have := HFE.out; simp only [lenOf, intOf, List.length_append, List.length_singleton]; omega
    · have hfl : far = left := by omega
      have HV := Aside0.mk (HI.out.done HG.out hfl)
      have hlt' : ¬ far < left := hlt
      clear hfl hlt hsp
      obtain ⟨tp, ta, tw⟩ := t
      simp only at HD HV
      have d0 := HD.out.c 0 _ rfl; have d1 := HD.out.c 1 _ rfl; have d2 := HD.out.c 2 _ rfl; have d3 := HD.out.c 3 _ rfl; have d4 := HD.out.c 4 _ rfl; have d5 := HD.out.c 5 _ rfl; have df0 := HD.out.f 0; have df1 := HD.out.f 1; have df2 := HD.out.f 2; have df3 := HD.out.f 3; have df4 := HD.out.f 4; have df5 := HD.out.f 5; have z0 := HZ.out.c 0 _ rfl; have z1 := HZ.out.c 1 _ rfl; have z2 := HZ.out.c 2 _ rfl; have z3 := HZ.out.c 3 _ rfl; have z4 := HZ.out.c 4 _ rfl; have z5 := HZ.out.c 5 _ rfl; have zf0 := HZ.out.f 0; have zf1 := HZ.out.f 1; have zf2 := HZ.out.f 2; have zf3 := HZ.out.f 3; have zf4 := HZ.out.f 4; have zf5 := HZ.out.f 5; have zlt := HZ.out.lt
      go_wp2
      refine bodyPost_ret (v := .tuple #[.agg #[.int .i64 (0), .int .i64 far, .int .i64 (-1), .int .i64 tp, .int .i64 ta, .int .i64 tw], .slice PA ps.length pc]) (by simp [results, Try.results115, go_sem, z0, z1, z2, z3, z4, z5, zf0, zf1, zf2, zf3, zf4, zf5, zlt]) rfl ⟨_, by first | (rw [HV.out]; rfl) | rfl, ?_, ?_⟩
      · try rw [HV.out]
        refine Kd.R_lower (base := base) ?_ (by rw [HBS.out]; omega)
        repeat (first | (with_reducible exact HP.out) | refine R_apart ?_ (by rw [HBS.out]; simp) _)
      · repeat (first | (with_reducible exact HB.out) | (with_reducible refine below_set ?_ (show w.heap.size ≤ w.heap.size + 1 + 1 by omega)) | (with_reducible refine below_set ?_ (show w.heap.size ≤ w.heap.size + 1 + 1 + 1 by omega)))
end Go.Proofs.Ytckcffjnffcjcaa
