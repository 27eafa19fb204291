/- Texts of this work, of each what the claim leans on: Rch2, Pl1, Pl2, PlStep, PlMap, Pl3, CostL. No conditions. -/
import Derived.Test.YtckcffjnffcjcaaVRc9
import Derived.Deep.RegionHeld3
import Derived.Outline
set_option linter.unusedVariables false
set_option linter.unusedSimpArgs false
namespace Go.Proofs.Ytckcffjnffcjcaa
open Go.RowKit Go.Proofs.YtckcffjnffcjcaaW.PrintWords
/-- What is known amid the rounds: all is told, or there is more to do. -/
def LW (n : NetT) (s : SpotT) (F : Int) (ov : Nat) (out : List SpotT) (line : List ItemT) : Prop :=
  (line = [] ∧ reachV n s F = sortS out ∧ out.Nodup ∧ out.length ≤ 200) ∨ (RG n s F (1001 - ov) out line ∧ ¬ F ≤ roomS n s)
theorem LW.near {n : NetT} {s : SpotT} {F : Int} (hb : reachB n s F = true) (hr : F ≤ roomS n s) : LW n s F 0 [moveS s F] [] := by
  refine .inl ⟨rfl, ?_, by simp, by simp⟩
  rw [reachV_near hb hr]
  unfold sortS
  simp
theorem LW.far {n : NetT} {s : SpotT} {F : Int} (hs : spotB n s = true) (hr : ¬ F ≤ roomS n s) : LW n s F 0 [] [(s, 0)] := .inr ⟨RG.start hs hr, hr⟩
theorem LW.out {n : NetT} {s : SpotT} {F : Int} {ov : Nat} {out : List SpotT} {line : List ItemT} (h : LW n s F ov out line) (hb : reachB n s F = true) (hl : line = []) : reachV n s F = sortS out ∧ out.Nodup ∧ out.length ≤ 200 := by
  rcases h with h | ⟨h, hr⟩
  · exact h.2
  · rw [hl] at h
    exact ⟨by rw [reachV_go hb hr]; exact h.out, h.nd, h.ol.1⟩
theorem LW.more {n : NetT} {s : SpotT} {F : Int} {ov : Nat} {out : List SpotT} {line : List ItemT} (h : LW n s F ov out line) (hl : line ≠ []) : RG n s F (1001 - ov) out line ∧ ¬ F ≤ roomS n s := by
  rcases h with h | h
  · exact absurd h.1 hl
  · exact h
theorem keys_true {α : Type} (l : List α) : (l.map (fun x => (x, true))).map (fun p => p.1) = l := by
  induction l with
  | nil => rfl
  | cons a l ih => rw [List.map_cons, List.map_cons, ih]
set_option maxRecDepth 100000 in
set_option maxHeartbeats 16000000 in
theorem implReach_any (n : NetT) (u : (Option Addr × Nat) × (Option Addr × Nat)) (s : SpotT) (F : Int) (w : World) (hr : RdNet 67 w u n) (hf : NetFits n) :
    Calls Try.prog 100 #[.agg #[.slice u.1.1 n.pieces.length u.1.2, .slice u.2.1 n.joints.length u.2.2], .agg #[.int .i64 s.piece, .int .i64 s.at_, .int .i64 s.way], .int .i64 F] w
      fun e w' => ∃ v, e = .returned v ∧ Kd.R kSpot 38 w' w.heap.size (fun _ => True) v (reachV n s F) ∧ Below w.heap.size w w' := by
  have hmm := @run_makeMap Try.prog
  have HR := Aside0.mk hr
  have HF := Aside0.mk hf
  clear hr hf
  obtain ⟨⟨A0, c0⟩, ⟨A1, c1⟩⟩ := u
  obtain ⟨ap, aa, aw⟩ := s
  obtain ⟨W0, hW0, hN, hS, fb0, hz0⟩ := box2 w [.slice A0 n.pieces.length c0, .slice A1 n.joints.length c1] [.int .i64 ap, .int .i64 aa, .int .i64 aw] 35 38
  have n0 := hN.c 0 _ rfl; have n1 := hN.c 1 _ rfl
  have s0 := hS.c 0 _ rfl; have s1 := hS.c 1 _ rfl; have s2 := hS.c 2 _ rfl
  have fb := Aside0.mk fb0
  have HN := Aside0.mk hN
  have HS := Aside0.mk hS
  have HW := Aside0.mk hW0
  have HZ := Aside0.mk hz0
  clear hW0 hN hS fb0 hz0
  obtain ⟨gd, hgd⟩ : ∃ b, b = netGood n := ⟨_, rfl⟩
  obtain ⟨ok, hok⟩ : ∃ b, b = spotB n ⟨ap, aa, aw⟩ := ⟨_, rfl⟩
  have HGD := Aside0.mk hgd.symm
  have HOK := Aside0.mk hok.symm
  clear hgd hok
  go_enter Try.func100, Try.ntmps100
  go_wp2_with fail
  rw [← HW.out]
  go_wp2_with fail
  (with_reducible refine Calls.mono (good_any n ((A0, c0), (A1, c1)) _ (HR.out.below fb.out) HF.out) ?_)
  rintro e w1 ⟨rfl, b1⟩
  rw [HGD.out]
  have N1 := Aside0.mk (HN.out.below b1)
  have S1 := Aside0.mk (HS.out.below b1)
  have B1 := Aside0.mk (below_more fb.out b1)
  clear n0 n1 s0 s1 s2 b1
  cases gd with
  | false =>
    have HV := Aside0.mk (reachV_bad (n := n) (s := ⟨ap, aa, aw⟩) (F := F) (by unfold reachB spotOkB; rw [HGD.out]; rfl))
    go_wp2_with fail
    go_ret
    exact ⟨_, rfl, by rw [HV.out]; exact Kd.R_nil .., B1.out⟩
  | true =>
    have n0 := N1.out.c 0 _ rfl; have n1 := N1.out.c 1 _ rfl
    have s0 := S1.out.c 0 _ rfl; have s1 := S1.out.c 1 _ rfl; have s2 := S1.out.c 2 _ rfl
    go_wp2_with fail
    (with_reducible refine Calls.mono (spotOk_any n ((A0, c0), (A1, c1)) ⟨ap, aa, aw⟩ _ (HR.out.below B1.out)) ?_)
    rintro e w2 ⟨rfl, b2⟩
    rw [HOK.out]
    have N2 := Aside0.mk (N1.out.below b2)
    have S2 := Aside0.mk (S1.out.below b2)
    have B2 := Aside0.mk (below_more B1.out b2)
    clear n0 n1 s0 s1 s2 b2
    cases ok with
    | false =>
      have HV := Aside0.mk (reachV_bad (n := n) (s := ⟨ap, aa, aw⟩) (F := F) (by unfold reachB spotOkB; rw [HGD.out, HOK.out]; rfl))
      go_wp2_with fail
      go_ret
      exact ⟨_, rfl, by rw [HV.out]; exact Kd.R_nil .., B2.out⟩
    | true =>
      by_cases hF0 : F < 0
      · have HV := Aside0.mk (reachV_bad (n := n) (s := ⟨ap, aa, aw⟩) (F := F) (by unfold reachB; rw [inB_false.2 (by omega)]; simp))
        go_wp2_with fail
        go_ret
        exact ⟨_, rfl, by rw [HV.out]; exact Kd.R_nil .., B2.out⟩
      · by_cases hF1 : (1000000 : Int) < F
        · have HV := Aside0.mk (reachV_bad (n := n) (s := ⟨ap, aa, aw⟩) (F := F) (by unfold reachB; rw [inB_false.2 (by omega)]; simp))
          go_wp2_with fail
          go_ret
          exact ⟨_, rfl, by rw [HV.out]; exact Kd.R_nil .., B2.out⟩
        · have hB : reachB n ⟨ap, aa, aw⟩ F = true := by unfold reachB spotOkB; rw [HGD.out, HOK.out, inB_true.2 (by omega)]; rfl
          have HB := Aside0.mk hB
          have HG := Aside0.mk (Good.of HGD.out)
          have HFB := Aside0.mk (show 0 ≤ F ∧ F ≤ 1000000 by omega)
          clear hB
          obtain ⟨W4, hW4⟩ : ∃ W4, W4 = (((w2.alloc (.map #[] 0)).alloc (.cells #[.map (some w2.heap.size)] 189)).alloc (.map #[] 0)).alloc (.cells #[.map (some (w2.heap.size + 1 + 1))] 190) := ⟨_, rfl⟩
          have B4 : Aside0 (Below w2.heap.size w2 W4) := ⟨by rw [hW4]; exact below_alloc (below_alloc (below_alloc (below_alloc (Below.refl _ _) _) _) _) _⟩
          have M4 : Aside0 (RM W4 (w2.heap.size + 1) (w2.heap.size + 1 + 1 + 1) w2.heap.size (w2.heap.size + 1 + 1) [] []) := ⟨by
            rw [hW4]
            refine ⟨?_, ?_, ?_, ?_, by omega⟩
            · have := Bx.new (w2.alloc (.map #[] 0)) [.map (some w2.heap.size)] 189
              rw [show (w2.alloc (.map #[] 0)).heap.size = w2.heap.size + 1 by simp] at this
              exact (this.alloc _).alloc _
            · have := Bx.new (((w2.alloc (.map #[] 0)).alloc (.cells #[.map (some w2.heap.size)] 189)).alloc (.map #[] 0)) [.map (some (w2.heap.size + 1 + 1))] 190
              rw [show (((w2.alloc (.map #[] 0)).alloc (.cells #[.map (some w2.heap.size)] 189)).alloc (.map #[] 0)).heap.size = w2.heap.size + 1 + 1 + 1 by simp] at this
              exact this
            · exact (((MapOf.made keySpot Value.bool w2).alloc _).alloc _).alloc _
            · have := MapOf.made keyGo Value.bool ((w2.alloc (.map #[] 0)).alloc (.cells #[.map (some w2.heap.size)] 189))
              rw [show ((w2.alloc (.map #[] 0)).alloc (.cells #[.map (some w2.heap.size)] 189)).heap.size = w2.heap.size + 1 + 1 by simp] at this
              exact this.alloc _⟩
          have N4 := Aside0.mk (N2.out.below B4.out)
          have S4 := Aside0.mk (S2.out.below B4.out)
          have HW4 := Aside0.mk hW4
          clear hW4
          go_upto_region 5 with (fail)
          rw [← HW4.out]
          have s0 := S4.out.c 0 _ rfl; have s1 := S4.out.c 1 _ rfl; have s2 := S4.out.c 2 _ rfl
          go_wp2_with fail
          (with_reducible refine Calls.mono (look_left n ((A0, c0), (A1, c1)) (⟨ap, aa, aw⟩, 0) F F (by simp) w.heap.size (w2.heap.size + 1) (w2.heap.size + 1 + 1 + 1) w2.heap.size (w2.heap.size + 1 + 1) [] [] _ (HR.out.below (below_more B2.out B4.out)) HG.out HOK.out HFB.out N4.out M4.out) ?_)
          rintro e w5 ⟨rfl, m5, k5⟩
          have HZ2 := Aside0.mk (show w.heap.size + 2 ≤ w2.heap.size by have h1 := S2.out.lt; omega)
          have N5 := Aside0.mk (k5.bx N4.out (by have := HZ2.out; omega) (by have := HZ2.out; omega))
          have B5 := Aside0.mk (k5.below (below_more B2.out B4.out) (show w.heap.size ≤ w2.heap.size by have := HZ2.out; omega) (show w.heap.size ≤ w2.heap.size + 1 + 1 by have := HZ2.out; omega) (by have h1 := HZ2.out; have h2 := B4.out.size; omega))
          have M5 : Aside0 (∃ out line, RM w5 (w2.heap.size + 1) (w2.heap.size + 1 + 1 + 1) w2.heap.size (w2.heap.size + 1 + 1) out (line.map (goR n F)) ∧ LW n ⟨ap, aa, aw⟩ F 0 out line) := ⟨by
            by_cases hle : F ≤ roomS n ⟨ap, aa, aw⟩
            · refine ⟨_, [], ?_, LW.near HB.out hle⟩
              have e : lookG n F ([], []) ((⟨ap, aa, aw⟩, 0) : ItemT) = ([moveS ⟨ap, aa, aw⟩ F], []) := by
                unfold lookG
                rw [if_pos (by unfold toldR; simpa using hle)]
                simp [addR, endR]
              rw [e] at m5
              exact m5
            · refine ⟨[], _, ?_, LW.far HOK.out hle⟩
              have e : lookG n F ([], []) ((⟨ap, aa, aw⟩, 0) : ItemT) = ([], [((⟨ap, aa, aw⟩, 0) : ItemT)].map (goR n F)) := by
                unfold lookG
                rw [if_neg (by unfold toldR; simpa using hle)]
                simp [addR]
              rw [e] at m5
              exact m5⟩
          clear s0 s1 s2 m5 k5
          go_wp2_with fail
          go_loopw [10] (fun v10 wr => ∃ (r mo : Nat) (out : List SpotT) (line : List ItemT), v10 = .int .i64 (r : Int) ∧ 1 ≤ r ∧ r ≤ 1001 ∧ Aside0 (Bx wr w.heap.size [.slice A0 n.pieces.length c0, .slice A1 n.joints.length c1]) ∧ Aside0 (RM wr (w2.heap.size + 1) (w2.heap.size + 1 + 1 + 1) w2.heap.size mo out (line.map (goR n F))) ∧ Aside0 (LW n ⟨ap, aa, aw⟩ F (r - 1) out line) ∧ Aside0 (Below w.heap.size w wr) ∧ Aside0 (w2.heap.size < mo)) (fun v10 _ => 1002 - (intOf v10).toNat)
          case atStart =>
            obtain ⟨out, line, h1, h2⟩ := M5.out
            exact ⟨1, _, out, line, rfl, by omega, by omega, N5, ⟨h1⟩, ⟨h2⟩, B5, ⟨by omega⟩⟩
          case round =>
            obtain ⟨r, mo, out, line, rfl, hr1, hr2, NN, MM, LL, BB, HMO⟩ := hrel
            obtain ⟨WO, hWO⟩ : ∃ WO : World, WO = wr := ⟨_, rfl⟩
            subst hWO
            have o0 := MM.out.o.c 0 _ rfl
            have hlen := fun ty => MM.out.mO.len (t := 190) (e := 4) Try.underlying190 ty
            simp only [List.length_map] at hlen
            by_cases hne : line = []
            · have HX := Aside0.mk (LL.out.out HB.out hne)
              have hln : ¬ 0 < line.length := by rw [hne]; simp
              have t0 := MM.out.t.c 0 _ rfl
              obtain ⟨o, hrg, IT⟩ := MM.out.mT.range (t := 189) (e := 4) Try.underlying189
              obtain ⟨es, clock, hes, _⟩ := IT.meas
              have IT0 := Aside0.mk IT
              have HES := Aside0.mk hes
              have HNM := Aside0.mk MM.out.mT
              clear hne hr1 hr2 hes IT
              go_wp2_with fail
              go_loopw [19] (fun v19 wr => ∃ (ps rest : List SpotT) (left : List (SpotT × Bool)), Aside0 (RI out ps rest (fun x => x) left) ∧ Aside0 (Iter keySpot Value.bool wr w2.heap.size WO.heap.size (out.map (fun x => (x, true))) left) ∧ Aside0 (wr.heap[w2.heap.size]? = some (.map es clock)) ∧ Aside0 (kSpot.R 38 wr (WO.heap.size + 1) (fun _ => True) v19 ps) ∧ Aside0 (Below w.heap.size w wr) ∧ Aside0 (WO.heap.size + 1 ≤ wr.heap.size)) (fun _ wr => (leftOf es (wr.iterSeen WO.heap.size)).size)
              case atStart => exact ⟨[], out, _, ⟨by have h := RI.start (line := out) (g := fun x => x) (fun x _ y _ e => e) (by simpa using HX.out.2.1); simpa using h⟩, IT0, HES, ⟨Kd.R_nil ..⟩, ⟨below_alloc BB.out _⟩, ⟨by simp⟩⟩
              case round =>
                obtain ⟨ps, rest, left, RI4, IT4, HE4, RO4, BB4, HZ4⟩ := hrel
                have MS : Aside0 ((leftOf es (wr.iterSeen WO.heap.size)).size = left.length) := ⟨by
                  obtain ⟨es', clock', h1, h2⟩ := IT4.out.meas
                  have h3 := HE4.out
                  rw [h1] at h3
                  injection h3 with h3
                  injection h3 with h3 _
                  rw [← h3]; exact h2⟩
                rcases IT4.out.next 0 with ⟨rfl, hnx⟩ | ⟨k, v, left', w', o', hnx, hw', hmem, hlt, h1, h2, hit, hen⟩
                · have HP := Aside0.mk RI4.out.done
                  have HPL := Aside0.mk (show ps.length ≤ 1000000 by have h1 := HX.out.2.2; have h2 := HP.out.length_eq; omega)
                  go_wp2_with fail
                  (with_reducible refine Calls.mono (sortFunc_any RO4.out HPL.out) ?_)
                  rintro e w9 ⟨rfl, hr9, hb9⟩
                  have R9 := Aside0.mk hr9
                  have B9 := Aside0.mk (below_low BB4.out hb9 (show w.heap.size ≤ WO.heap.size + 1 by have := BB.out.size; omega))
                  have HV : Aside0 (reachV n ⟨ap, aa, aw⟩ F = sortS ps) := ⟨by rw [HX.out.1]; exact sortS_perm HP.out HX.out.2.1⟩
                  clear hr9 hb9
                  go_wp2_with fail
                  go_ret
                  exact ⟨_, rfl, by rw [HV.out]; exact Kd.R_lower R9.out (by have := BB.out.size; omega), B9.out⟩
                · obtain ⟨x, rest', hxl, hkx, rfl, hri⟩ := RI4.out.next hmem h1 h2
                  subst hkx
                  obtain ⟨xp, xa, xw⟩ := k
                  replace hnx : (Instr.next (.pointer (some ⟨WO.heap.size, 0, none⟩)) false 0).run Try.prog wr = .ok (.tuple #[.bool true, .agg #[.int .i64 xp, .int .i64 xa, .int .i64 xw], .bool true]) w' := hnx
                  replace hen : (Instr.entry (.pointer (some ⟨WO.heap.size, 0, none⟩))).run Try.prog w' = .ok (.tuple #[.agg #[.int .i64 xp, .int .i64 xa, .int .i64 xw], .bool true]) w' := hen
                  obtain ⟨OA, oc, eO⟩ := Kd.R_slice RO4.out
                  subst eO
                  have KS := Aside0.mk (KeepM.step hw')
                  have R5 := Aside0.mk (Kd.R_alloc (KS.out.row RO4.out (Nat.lt_succ_self _) (Nat.lt_succ_self _)) (.cells #[.int .i64 xp, .int .i64 xa, .int .i64 xw] 38))
                  have I5 := Aside0.mk (hit.below (below_alloc (Below.refl _ _) (.cells #[.int .i64 xp, .int .i64 xa, .int .i64 xw] 38)))
                  have X5 := Aside0.mk (Bx.new w' [.int .i64 xp, .int .i64 xa, .int .i64 xw] 38)
                  have B5 := Aside0.mk (below_alloc (KS.out.below BB4.out (show w.heap.size ≤ WO.heap.size from BB.out.size) (show w.heap.size ≤ WO.heap.size from BB.out.size) BB4.out.size) (.cells #[.int .i64 xp, .int .i64 xa, .int .i64 xw] 38))
                  have Z5 := Aside0.mk (show WO.heap.size + 1 ≤ (w'.alloc (.cells #[.int .i64 xp, .int .i64 xa, .int .i64 xw] 38)).heap.size by have h1 := HZ4.out; have h2 := KS.out.size; simp; omega)
                  have E5 : Aside0 ((w'.alloc (.cells #[.int .i64 xp, .int .i64 xa, .int .i64 xw] 38)).heap[w2.heap.size]? = some (.map es clock)) := ⟨((below_alloc (Below.refl _ _) _).block _ hit.map.lt).trans ((KS.out.block IT4.out.map.lt IT4.out.ne IT4.out.ne).trans HE4.out)⟩
                  have HLT := Aside0.mk hlt
                  have HRI := Aside0.mk hri
                  have HPL := Aside0.mk (show ps.length ≤ 1000 by have h1 := HX.out.2.2; have h2 := RI4.out.length; omega)
                  have x0 := X5.out.c 0 _ rfl; have x1 := X5.out.c 1 _ rfl; have x2 := X5.out.c 2 _ rfl
                  clear hw' hmem hlt h1 h2 hxl hri hit
                  go_wp2_with ((with_reducible refine gate_callP (b := .append) (xs := #[.tmp 103, .tmp 105]) rfl ?_); at_builtin; refine Kd.R_append kSpot (w0 := w'.alloc (.cells #[.int .i64 xp, .int .i64 xa, .int .i64 xw] 38)) (WO.heap.size + 1) rfl (.tmp 103) (.tmp 105) 122 38 (.agg #[.int .i64 0, .int .i64 0, .int .i64 0]) 24 rfl Try.underlying122 info38R rfl (by decide) (by omega) (.slice OA ps.length oc) ps ⟨xp, xa, xw⟩ [.int .i64 xp, .int .i64 xa, .int .i64 xw] (fun _ => True) (fun _ => False) rfl (by first | (go_simp; done) | (go_simp; rfl)) (kSpot_mkM _ _ _ ⟨xp, xa, xw⟩) (fun _ hk => hk.elim) (fun _ _ => trivial) R5.out (Below.refl _ _) Z5.out (by have := HPL.out; omega) ?_; intro v1 w9 hR9 hB9 hG9 hat9; have R9 := Aside0.mk hR9; have B9 := Aside0.mk hB9; have G9 := Aside0.mk hG9; clear hR9 hB9 hG9 hat9)
                  have I9 : Aside0 (Iter keySpot Value.bool w9 w2.heap.size WO.heap.size (out.map (fun x => (x, true))) left') := ⟨I5.out.move (B9.out.block _ (by have h1 := HNM.out.lt; omega)) (B9.out.block _ (by omega))⟩
                  have E9 : Aside0 (w9.heap[w2.heap.size]? = some (.map es clock)) := ⟨(B9.out.block _ (by have h1 := HNM.out.lt; omega)).trans E5.out⟩
                  go_roundw
                  case rel => exact ⟨ps ++ [⟨xp, xa, xw⟩], rest', left', HRI, I9, E9, R9, ⟨below_low B5.out B9.out (by have := BB.out.size; omega)⟩, ⟨Nat.le_trans Z5.out B9.out.size⟩⟩
                  case measure =>
                    have M9 : (leftOf es (w9.iterSeen WO.heap.size)).size = left'.length := by
                      obtain ⟨es', clock', h1, h2⟩ := I9.out.meas
                      have h3 := E9.out
                      rw [h1] at h3
                      injection h3 with h3
                      injection h3 with h3 _
                      rw [← h3]; exact h2
                    rw [M9, MS.out]
                    exact HLT.out
            · obtain ⟨hRG, hfar⟩ := LL.out.more hne
              have HRG := Aside0.mk hRG
              have HFAR := Aside0.mk hfar
              have HNE := Aside0.mk hne
              have hlp : 0 < line.length := List.length_pos_iff.2 hne
              obtain ⟨WA, hWA⟩ : ∃ WA, WA = (WO.setCell ⟨w2.heap.size + 1 + 1 + 1, 0, none⟩ (.map (some WO.heap.size))).alloc (.map #[] 0) := ⟨_, rfl⟩
              have hmo := MM.out.mO.lt
              have hmt := MM.out.mT.lt
              have hob := MM.out.o.lt
              have hne8 := MM.out.ne
              have hsz : (WO.setCell ⟨w2.heap.size + 1 + 1 + 1, 0, none⟩ (.map (some WO.heap.size))).heap.size = WO.heap.size := by simp [World.setCell]
              have MA : Aside0 (RM WA (w2.heap.size + 1) (w2.heap.size + 1 + 1 + 1) w2.heap.size WO.heap.size out []) := ⟨by
                rw [hWA]
                refine ⟨(MM.out.t.far (by omega) _).alloc _, (MM.out.o.set (i := 0) (by simp) _).alloc _, (MM.out.mT.setCell _ _).alloc _, ?_, by omega⟩
                have := MapOf.made keyGo Value.bool (WO.setCell ⟨w2.heap.size + 1 + 1 + 1, 0, none⟩ (.map (some WO.heap.size)))
                rw [hsz] at this
                exact this⟩
              have OA : Aside0 (MapOf keyGo Value.bool WA mo ((line.map (goR n F)).map (fun x => (x, true)))) := ⟨by rw [hWA]; exact (MM.out.mO.setCell _ _).alloc _⟩
              have NA : Aside0 (Bx WA w.heap.size [.slice A0 n.pieces.length c0, .slice A1 n.joints.length c1]) := ⟨by rw [hWA]; exact (NN.out.far (by have := HZ2.out; omega) _).alloc _⟩
              have BA : Aside0 (Below w.heap.size w WA) := ⟨by rw [hWA]; exact below_alloc (below_set BB.out (show w.heap.size ≤ w2.heap.size + 1 + 1 + 1 by have := HZ2.out; omega)) _⟩
              have hsA : WA.heap.size = WO.heap.size + 1 := by rw [hWA]; simp [World.setCell]
              obtain ⟨o, hrg, IT⟩ := OA.out.range (t := 190) (e := 4) Try.underlying190
              obtain ⟨es, clock, hes, _⟩ := IT.meas
              have HWA := Aside0.mk hWA
              have RN0 := Aside0.mk (show RN w [.slice A0 n.pieces.length c0, .slice A1 n.joints.length c1] (w2.heap.size + 1) (w2.heap.size + 1 + 1 + 1) w2.heap.size WO.heap.size mo WA.heap.size ((line.map (goR n F)).map (fun x => (x, true))) ((line.map (goR n F)).map (fun x => (x, true))) es clock (WA.alloc o) (roundR n F out []).1 ((roundR n F out []).2.map (goR n F)) from
                ⟨MA.out.below (below_alloc (Below.refl _ _) _), IT, hes, NA.out.alloc _, below_alloc BA.out _, by have := HZ2.out; have := HMO.out; omega⟩)
              have RI0 := Aside0.mk (RI.start (line := line) (g := goR n F) hRG.ent (by have h := MM.out.mO.nodup; rwa [keys_true] at h))
              have of0 := MM.out.o.f 0
              clear hRG hfar hne hWA hes IT
              go_upto_region 12 with (fail)
              rw [← HWA.out]
              have HSA := Aside0.mk hsA
              have HMT := Aside0.mk hmt
              clear hmo hmt hob hne8 hsz hsA
              go_wp2_with fail
              go_loopw [55] (fun _ wr => ∃ (ps rest : List ItemT) (left : List (ItemT × Bool)), Aside0 (RI line ps rest (goR n F) left) ∧ Aside0 (∀ y ∈ (roundR n F out ps).2, EntS n y) ∧ Aside0 (RN w [.slice A0 n.pieces.length c0, .slice A1 n.joints.length c1] (w2.heap.size + 1) (w2.heap.size + 1 + 1 + 1) w2.heap.size WO.heap.size mo WA.heap.size ((line.map (goR n F)).map (fun x => (x, true))) left es clock wr (roundR n F out ps).1 ((roundR n F out ps).2.map (goR n F)))) (fun _ wr => (leftOf es (wr.iterSeen WA.heap.size)).size)
              case atStart => exact ⟨[], line, _, RI0, ⟨fun y hy => by simp [roundR] at hy⟩, RN0⟩
              case round =>
                obtain ⟨ps, rest, left, RI2, EN2, RN2⟩ := hrel
                rcases RN2.out.it.next 0 with ⟨rfl, hnx⟩ | ⟨k, v, left', w', o', hnx, hw', hmem, hlt, h1, h2, hit, hen⟩
                · have HP := Aside0.mk RI2.out.done
                  have t0 := RN2.out.rm.t.c 0 _ rfl; have o0 := RN2.out.rm.o.c 0 _ rfl
                  have hlT := fun ty => RN2.out.rm.mT.len (t := 189) (e := 4) Try.underlying189 ty
                  have hlO := fun ty => RN2.out.rm.mO.len (t := 190) (e := 4) Try.underlying190 ty
                  simp only [List.length_map] at hlT hlO
                  obtain ⟨o1, ho1⟩ : ∃ k, k = (roundR n F out ps).1.length := ⟨_, rfl⟩
                  obtain ⟨n1, hn1⟩ : ∃ k, k = (roundR n F out ps).2.length := ⟨_, rfl⟩
                  rw [← ho1] at hlT
                  rw [← hn1] at hlO
                  have HGG : Aside0 (RG n ⟨ap, aa, aw⟩ F (1001 - r + 1) out line) := ⟨by rw [show 1001 - r + 1 = 1001 - (r - 1) by omega]; exact HRG.out⟩
                  have HO1 := Aside0.mk ho1
                  have HN1 := Aside0.mk hn1
                  clear ho1 hn1
                  by_cases h1 : 200 < o1
                  · have HV : Aside0 (reachV n ⟨ap, aa, aw⟩ F = []) := ⟨by rw [reachV_go HB.out (by have := HFAR.out; omega)]; exact HGG.out.fail HP.out HNE.out (.inl (by rw [← HO1.out]; exact h1))⟩
                    have h1' : (200 : Int) < (o1 : Int) := by omega
                    go_wp2_with fail
                    go_ret
                    exact ⟨_, rfl, by rw [HV.out]; exact Kd.R_nil .., RN2.out.b0⟩
                  · have h1' : ¬ (200 : Int) < (o1 : Int) := by omega
                    by_cases h2 : 1000 < n1
                    · have HV : Aside0 (reachV n ⟨ap, aa, aw⟩ F = []) := ⟨by rw [reachV_go HB.out (by have := HFAR.out; omega)]; exact HGG.out.fail HP.out HNE.out (.inr (.inl (by rw [← HN1.out]; exact h2)))⟩
                      have h2' : (1000 : Int) < (n1 : Int) := by omega
                      go_wp2_with fail
                      go_ret
                      exact ⟨_, rfl, by rw [HV.out]; exact Kd.R_nil .., RN2.out.b0⟩
                    · have h2' : ¬ (1000 : Int) < (n1 : Int) := by omega
                      by_cases h3 : r = 1001
                      · have HV : Aside0 (reachV n ⟨ap, aa, aw⟩ F = []) := ⟨by rw [reachV_go HB.out (by have := HFAR.out; omega)]; exact HGG.out.fail HP.out HNE.out (.inr (.inr (by omega)))⟩
                        have h3' : ((r : Int) == 1001) = true := by simp; omega
                        go_wp2_with fail
                        go_ret
                        exact ⟨_, rfl, by rw [HV.out]; exact Kd.R_nil .., RN2.out.b0⟩
                      · have h3' : ((r : Int) == 1001) = false := by simp; omega
                        have HNX := Aside0.mk (HGG.out.next HG.out HP.out HNE.out (by rw [← HO1.out, ← HN1.out]; omega))
                        go_wp2_with fail
                        go_roundw
                        case rel =>
                          exact ⟨r + 1, WO.heap.size, (roundR n F out ps).1, (roundR n F out ps).2, by go_num, by omega, by omega, ⟨RN2.out.net⟩, ⟨RN2.out.rm⟩, ⟨.inr ⟨by rw [show 1001 - (r + 1 - 1) = 1001 - r by omega]; exact HNX.out, by have := HFAR.out; omega⟩⟩, ⟨RN2.out.b0⟩, ⟨HMT.out⟩⟩
                        case measure => simp [intOf]; omega
                · obtain ⟨x, rest', hxl, hkx, rfl, hri⟩ := RI2.out.next hmem h1 h2
                  obtain ⟨hsx, hx0, hx1⟩ := HRG.out.it x hxl
                  obtain ⟨⟨xp, xa, xw⟩, xf⟩ := x
                  obtain ⟨⟨gp, ga, gw⟩, gl⟩ := k
                  have hk1 : (⟨gp, ga, gw⟩ : SpotT) = moveS ⟨xp, xa, xw⟩ (roomS n ⟨xp, xa, xw⟩) := congrArg (fun z => z.1) hkx
                  have hk2 : gl = F - xf - roomS n ⟨xp, xa, xw⟩ := congrArg (fun z => z.2) hkx
                  simp only at hsx hx0 hx1
                  have hgs : spotB n ⟨gp, ga, gw⟩ = true := by rw [hk1]; exact moveS_there hsx HG.out
                  have hgh : headE ⟨gp, ga, gw⟩ = headE ⟨xp, xa, xw⟩ := by rw [hk1]; rfl
                  replace hnx : (Instr.next (.pointer (some ⟨WA.heap.size, 0, none⟩)) false 0).run Try.prog wr = .ok (.tuple #[.bool true, .agg #[.int .i64 gp, .int .i64 ga, .int .i64 gw, .int .i64 gl], .bool true]) w' := hnx
                  replace hen : (Instr.entry (.pointer (some ⟨WA.heap.size, 0, none⟩))).run Try.prog w' = .ok (.tuple #[.agg #[.int .i64 gp, .int .i64 ga, .int .i64 gw, .int .i64 gl], .bool true]) w' := hen
                  have RN3 := Aside0.mk (RN2.out.step hw' hit)
                  have HLT := Aside0.mk hlt
                  have HMS := Aside0.mk RN2.out.meas
                  have HRI := Aside0.mk hri
                  have HSX := Aside0.mk hsx
                  have HX01 := Aside0.mk (show 0 ≤ xf ∧ xf + roomS n ⟨xp, xa, xw⟩ < F from ⟨hx0, hx1⟩)
                  have HK2 := Aside0.mk hk2
                  have hgb := spotB_iff.1 hgs
                  have hglen := HG.out.len hgb.1 hgb.2.1
                  simp only at hgb hglen
                  have HGB := Aside0.mk hgb
                  have HGL := Aside0.mk hglen
                  obtain ⟨⟨hp, hs2⟩, hh⟩ : ∃ e, e = headE ⟨gp, ga, gw⟩ := ⟨_, rfl⟩
                  have HHV : Aside0 ((Value.agg #[.int .i64 (headE ⟨gp, ga, gw⟩).piece, .int .i64 (headE ⟨gp, ga, gw⟩).side]) = (Value.agg #[.int .i64 hp, .int .i64 hs2])) := ⟨by rw [← hh]⟩
                  have HHX : Aside0 ((⟨hp, hs2⟩ : EndT) = headE ⟨xp, xa, xw⟩) := ⟨by rw [hh, hgh]⟩
                  obtain ⟨rg, hrg2⟩ : ∃ r, r = roomS n ⟨gp, ga, gw⟩ := ⟨_, rfl⟩
                  have HRGM := Aside0.mk hrg2
                  obtain ⟨W6, hW6⟩ : ∃ W6, W6 = w'.alloc (.cells #[.int .i64 gp, .int .i64 ga, .int .i64 gw, .int .i64 gl] 192) := ⟨_, rfl⟩
                  have G6 : Aside0 (Bx W6 w'.heap.size [.int .i64 gp, .int .i64 ga, .int .i64 gw, .int .i64 gl]) := ⟨by rw [hW6]; exact Bx.new w' _ 192⟩
                  have RN6 : Aside0 (RN w [.slice A0 n.pieces.length c0, .slice A1 n.joints.length c1] (w2.heap.size + 1) (w2.heap.size + 1 + 1 + 1) w2.heap.size WO.heap.size mo WA.heap.size ((line.map (goR n F)).map (fun x => (x, true))) left' es clock W6 (roundR n F out ps).1 ((roundR n F out ps).2.map (goR n F))) := ⟨by rw [hW6]; exact RN3.out.below (below_alloc (Below.refl _ _) _)⟩
                  have HGW := Aside0.mk (show WO.heap.size < w'.heap.size by have h1 := RN3.out.it.ltr; have h2 := HSA.out; omega)
                  have HW6 := Aside0.mk hW6
                  clear hmem hlt h1 h2 hxl hri hit hw' hkx hsx hx0 hx1 hk1 hk2 hgs hgh hgb hglen hh hrg2 hW6
                  have n0 := RN6.out.net.c 0 _ rfl; have n1 := RN6.out.net.c 1 _ rfl
                  have g0 := G6.out.c 0 _ rfl; have g1 := G6.out.c 1 _ rfl; have g2 := G6.out.c 2 _ rfl
                  go_upto_region 15 with (fail)
                  rw [← HW6.out]
                  go_wp2_with fail
                  (with_reducible refine Calls.mono (room_any n ((A0, c0), (A1, c1)) ⟨gp, ga, gw⟩ _ (HR.out.below RN6.out.b0) (by have := HGB.out; simp only; omega) (by have := HGB.out; simp only; omega) (by have := HGB.out; simp only; omega) (by have := HGB.out; simp only; omega) (by have := HGL.out; simp only; omega)) ?_)
                  rintro e w7 ⟨rfl, b7⟩
                  rw [← HRGM.out, HHV.out]
                  obtain ⟨W8, hW8⟩ : ∃ W8, W8 = w7.alloc (.cells #[.int .i64 hp, .int .i64 hs2] 67) := ⟨_, rfl⟩
                  have RN8 := Aside0.mk ((RN6.out.below b7).below (show Below w7.heap.size w7 W8 by rw [hW8]; exact below_alloc (Below.refl _ _) _))
                  have G8 := Aside0.mk ((G6.out.below b7).below (show Below w7.heap.size w7 W8 by rw [hW8]; exact below_alloc (Below.refl _ _) _))
                  have E8 : Aside0 (Bx W8 w7.heap.size [.int .i64 hp, .int .i64 hs2]) := ⟨by rw [hW8]; exact Bx.new w7 _ 67⟩
                  have HW8 := Aside0.mk hW8
                  clear hW8 b7 n0 n1 g0 g1 g2
                  have n0 := RN8.out.net.c 0 _ rfl; have n1 := RN8.out.net.c 1 _ rfl
                  have e0 := E8.out.c 0 _ rfl; have e1 := E8.out.c 1 _ rfl
                  go_upto_region 16 with (fail)
                  rw [← HW8.out]
                  go_wp2_with fail
                  (with_reducible refine Calls.mono (over_any n ((A0, c0), (A1, c1)) ⟨hp, hs2⟩ _ (HR.out.below RN8.out.b0) HG.out) ?_)
                  rintro e w9 ⟨v1, v2, rfl, r1, r2, b9⟩
                  obtain ⟨E, hE⟩ : ∃ E, E = acrossG n ⟨hp, hs2⟩ := ⟨_, rfl⟩
                  rw [← hE] at r1
                  have HE := Aside0.mk (show E = acrossE n (headE (⟨xp, xa, xw⟩, xf).1) by rw [hE, HHX.out]; exact acrossG_ok HG.out (headE_ok HSX.out))
                  have hE2 : E.length ≤ 2 := by rw [HE.out]; unfold acrossE; exact acrossJ_few _ _
                  obtain ⟨AE, cE, eE⟩ := Kd.R_slice r1
                  subst eE
                  have RE := Aside0.mk r1
                  have HZE := Aside0.mk (show WO.heap.size < W8.heap.size by have h1 := HGW.out; have h2 := G8.out.lt; omega)
                  have RN9 := Aside0.mk (show RN w [.slice A0 n.pieces.length c0, .slice A1 n.joints.length c1] (w2.heap.size + 1) (w2.heap.size + 1 + 1 + 1) w2.heap.size WO.heap.size mo WA.heap.size ((line.map (goR n F)).map (fun x => (x, true))) left' es clock w9 (endRS n F (roundR n F out ps) (⟨xp, xa, xw⟩, xf) 0).1 ((endRS n F (roundR n F out ps) (⟨xp, xa, xw⟩, xf) 0).2.map (goR n F)) from RN8.out.below b9)
                  have G9 := Aside0.mk (G8.out.below b9)
                  clear b9 r1 r2 hE n0 n1 e0 e1
                  go_wp2_with fail
                  go_loopw [73] (fun v73 wr => ∃ (q : Nat), v73 = .int .i64 (q : Int) ∧ q ≤ E.length ∧ Aside0 (∀ y ∈ (endRS n F (roundR n F out ps) (⟨xp, xa, xw⟩, xf) q).2, EntS n y) ∧ Aside0 (RN w [.slice A0 n.pieces.length c0, .slice A1 n.joints.length c1] (w2.heap.size + 1) (w2.heap.size + 1 + 1 + 1) w2.heap.size WO.heap.size mo WA.heap.size ((line.map (goR n F)).map (fun x => (x, true))) left' es clock wr (endRS n F (roundR n F out ps) (⟨xp, xa, xw⟩, xf) q).1 ((endRS n F (roundR n F out ps) (⟨xp, xa, xw⟩, xf) q).2.map (goR n F))) ∧ Aside0 (Bx wr w'.heap.size [.int .i64 gp, .int .i64 ga, .int .i64 gw, .int .i64 gl]) ∧ Aside0 (kEnd.R 67 wr W8.heap.size (fun _ => True) (.slice AE E.length cE) E)) (fun v73 _ => E.length - (intOf v73).toNat)
                  case atStart => exact ⟨0, rfl, Nat.zero_le _, ⟨EN2.out⟩, RN9, G9, RE⟩
                  case round =>
                    obtain ⟨q, rfl, hq, EN3, RN3', G3, RE3⟩ := hrel
                    by_cases hlt3 : q < E.length
                    · obtain ⟨WR, hWR⟩ : ∃ WR : World, WR = wr := ⟨_, rfl⟩
                      subst hWR
                      obtain ⟨st, hst⟩ : ∃ st, st = endRS n F (roundR n F out ps) (⟨xp, xa, xw⟩, xf) q := ⟨_, rfl⟩
                      have HSN := Aside0.mk (endRS_next (n := n) (F := F) (st := roundR n F out ps) (c := (⟨xp, xa, xw⟩, xf)) HE.out hlt3)
                      rw [← hst] at RN3' EN3 HSN
                      obtain ⟨adE, eE1, z0, z1⟩ := at_End (Kd.R_reads' RE3.out).2.2 q hlt3
                      subst eE1
                      have hem := getD_mem E q hlt3
                      rw [HE.out] at hem
                      have hee := (HG.out.across (headE_ok HSX.out) hem).1
                      rw [← HE.out] at hee
                      obtain ⟨⟨ep, es2⟩, he⟩ : ∃ e, e = E.getD q default := ⟨_, rfl⟩
                      rw [← he] at z0 z1 hee
                      rw [← he] at HSN
                      have HEE := Aside0.mk hee
                      have hb1 := endB_iff.1 hee
                      simp only at hb1
                      have HEB := Aside0.mk hb1
                      obtain ⟨⟨np, na, nw⟩, hen2⟩ : ∃ e, e = enterS n ⟨ep, es2⟩ := ⟨_, rfl⟩
                      have HEV : Aside0 ((Value.agg #[.int .i64 (enterS n ⟨ep, es2⟩).piece, .int .i64 (enterS n ⟨ep, es2⟩).at_, .int .i64 (enterS n ⟨ep, es2⟩).way]) = (Value.agg #[.int .i64 np, .int .i64 na, .int .i64 nw])) := ⟨by rw [← hen2]⟩
                      have HNS := Aside0.mk (show spotB n ((⟨np, na, nw⟩, xf + roomS n ⟨xp, xa, xw⟩) : ItemT).1 = true by rw [hen2]; exact enterS_ok HG.out hee)
                      have HNE2 := Aside0.mk (show EntS n (⟨np, na, nw⟩, xf + roomS n ⟨xp, xa, xw⟩) from ⟨_, hee, hen2⟩)
                      rw [← hen2] at HSN
                      have HGLE := Aside0.mk (show gl = F - ((⟨np, na, nw⟩, xf + roomS n ⟨xp, xa, xw⟩) : ItemT).2 by have := HK2.out; simp only; omega)
                      have HGLB := Aside0.mk (show 0 ≤ gl ∧ gl ≤ 1000000 by
                        have h1 := HK2.out
                        have h2 := HX01.out
                        have h3 := HFB.out
                        have h4 := (roomS_bd HG.out HSX.out).1
                        omega)
                      have HLG := Aside0.mk (lookG_look (n := n) (F := F) (out := st.1) (next := st.2) (x := (⟨np, na, nw⟩, xf + roomS n ⟨xp, xa, xw⟩)) EN3.out HNE2.out)
                      have hq0 : (0 : Int) ≤ (q : Int) := by omega
                      have hq1 : (q : Int) < (E.length : Int) := by omega
                      obtain ⟨W10, hW10⟩ : ∃ W10, W10 = WR.alloc (.cells #[.int .i64 ep, .int .i64 es2] 67) := ⟨_, rfl⟩
                      have Q10 : Below WR.heap.size WR W10 := by rw [hW10]; exact below_alloc (Below.refl _ _) _
                      have RN10 := Aside0.mk (RN3'.out.below Q10)
                      have G10 := Aside0.mk (G3.out.below Q10)
                      have RE10 := Aside0.mk (Kd.R_below RE3.out Q10)
                      have X10 : Aside0 (Bx W10 WR.heap.size [.int .i64 ep, .int .i64 es2]) := ⟨by rw [hW10]; exact Bx.new WR _ 67⟩
                      have HZR := Aside0.mk (show w'.heap.size < WR.heap.size from G3.out.lt)
                      have HW10 := Aside0.mk hW10
                      clear hst hem he hee hb1 hen2 hW10 Q10
                      go_upto_region 20 with (fail)
                      rw [← HW10.out]
                      clear z0 z1
                      have HSx : Aside0 (∀ W, Below W10.heap.size W10 W → (W.cell? ⟨w.heap.size, 0, none⟩ = some (.slice A0 n.pieces.length c0) ∧ W.cell? ⟨w.heap.size, 1, none⟩ = some (.slice A1 n.joints.length c1) ∧ W.cell? ⟨WR.heap.size, 0, none⟩ = some (.int .i64 ep) ∧ W.cell? ⟨WR.heap.size, 1, none⟩ = some (.int .i64 es2) ∧ W.cell? ⟨w'.heap.size, 3, none⟩ = some (.int .i64 gl))) := ⟨fun W hb => ⟨(RN10.out.net.below hb).c 0 _ rfl, (RN10.out.net.below hb).c 1 _ rfl, (X10.out.below hb).c 0 _ rfl, (X10.out.below hb).c 1 _ rfl, (G10.out.below hb).c 3 _ rfl⟩⟩
                      go_region_held3 (fun W => W.cell? ⟨w.heap.size, 0, none⟩ = some (.slice A0 n.pieces.length c0) ∧ W.cell? ⟨w.heap.size, 1, none⟩ = some (.slice A1 n.joints.length c1) ∧ W.cell? ⟨WR.heap.size, 0, none⟩ = some (.int .i64 ep) ∧ W.cell? ⟨WR.heap.size, 1, none⟩ = some (.int .i64 es2) ∧ W.cell? ⟨w'.heap.size, 3, none⟩ = some (.int .i64 gl))
                        (first | (with_reducible assumption) | (with_reducible exact HSx.out _ (by with_reducible assumption)) | (with_reducible exact HSx.out _ (Below.refl _ _)) | (with_reducible exact HSx.out _ (Below.drew (Below.refl _ _))))
                        (first
                          | (go_at_call 141; go_split_ands; (with_reducible refine Calls.mono (enter_any n ((A0, c0), (A1, c1)) ⟨ep, es2⟩ _ (HR.out.below (below_more RN10.out.b0 (by first | (with_reducible assumption) | (with_reducible exact Below.refl _ _) | (with_reducible exact Below.drew (Below.refl _ _))))) (by have := HEB.out; simp only; omega) (by have := HEB.out; simp only; omega)) ?_); rintro e t0 ⟨rfl, b3⟩; rw [HEV.out]; have tq0 : Below W10.heap.size W10 t0 := below_more (by first | (with_reducible assumption) | (with_reducible exact Below.refl _ _) | (with_reducible exact Below.drew (Below.refl _ _))) b3; clear b3)
                          | (go_at_call 162; go_split_ands; (with_reducible refine Calls.mono (look_left n ((A0, c0), (A1, c1)) (⟨np, na, nw⟩, xf + roomS n ⟨xp, xa, xw⟩) F gl HGLE.out w.heap.size (w2.heap.size + 1) (w2.heap.size + 1 + 1 + 1) w2.heap.size WO.heap.size st.1 (st.2.map (goR n F)) _ (HR.out.below (below_more RN10.out.b0 (by with_reducible assumption))) HG.out HNS.out HGLB.out (RN10.out.below (by with_reducible assumption)).net (RN10.out.below (by with_reducible assumption)).rm) ?_); rintro e t1 ⟨rfl, m9, k9⟩; have RN11 := Aside0.mk ((RN10.out.below (by with_reducible assumption)).look k9 m9); have G11 := Aside0.mk (k9.bx (G10.out.below (by with_reducible assumption)) (by have h1 := HGW.out; have h2 := HMT.out; omega) (by have h1 := HGW.out; omega)); have X11 := Aside0.mk (k9.bx (X10.out.below (by with_reducible assumption)) (by have h1 := HGW.out; have h2 := HMT.out; have h3 := HZR.out; omega) (by have h1 := HGW.out; have h3 := HZR.out; omega)); have RE11 := Aside0.mk (k9.row (Kd.R_below RE10.out (by with_reducible assumption)) (by have h1 := HMT.out; have h2 := HZE.out; omega) HZE.out); have HH : (t1.cell? ⟨w.heap.size, 0, none⟩ = some (.slice A0 n.pieces.length c0) ∧ t1.cell? ⟨w.heap.size, 1, none⟩ = some (.slice A1 n.joints.length c1) ∧ t1.cell? ⟨WR.heap.size, 0, none⟩ = some (.int .i64 ep) ∧ t1.cell? ⟨WR.heap.size, 1, none⟩ = some (.int .i64 es2) ∧ t1.cell? ⟨w'.heap.size, 3, none⟩ = some (.int .i64 gl)) := ⟨RN11.out.net.c 0 _ rfl, RN11.out.net.c 1 _ rfl, X11.out.c 0 _ rfl, X11.out.c 1 _ rfl, G11.out.c 3 _ rfl⟩))
                      all_goals
                        try go_wp2_with fail
                        go_roundw
                        case rel =>
                          have h1 := RN11.out
                          rw [HLG.out] at h1
                          refine ⟨q + 1, by go_num, by omega, ⟨?_⟩, ⟨?_⟩, G11, RE11⟩
                          · rw [HSN.out]; exact lookR_ent EN3.out HNE2.out
                          · rw [HSN.out]; exact h1
                        case measure => simp [intOf]; omega
                    · have hqe : q = E.length := by omega
                      have HQE := Aside0.mk hqe
                      have hge : ¬ (q : Int) < (E.length : Int) := by omega
                      clear hqe
                      have EE : Aside0 (endRS n F (roundR n F out ps) (⟨xp, xa, xw⟩, xf) q = roundR n F out (ps ++ [(⟨xp, xa, xw⟩, xf)])) := ⟨by rw [roundR_snoc]; exact endRS_all (by rw [HQE.out, nextR_len, ← HE.out])⟩
                      go_wp2_with fail
                      go_roundw
                      case rel =>
                        have h1 := EN3.out
                        have h2 := RN3'.out
                        rw [EE.out] at h1 h2
                        exact ⟨ps ++ [(⟨xp, xa, xw⟩, xf)], rest', left', HRI, ⟨h1⟩, ⟨h2⟩⟩
                      case measure =>
                        rw [RN3'.out.meas, HMS.out]
                        exact HLT.out
end Go.Proofs.Ytckcffjnffcjcaa
set_option linter.unusedVariables false
set_option linter.unusedSimpArgs false
namespace Go.Proofs.Ytckcffjnffcjcaa
open Go.RowKit Go.Proofs.YtckcffjnffcjcaaW.PrintWords
set_option maxRecDepth 100000 in
set_option maxHeartbeats 4000000 in
theorem isStep_any (x : EndT) (bs bi : Nat) (A : Option Addr) (c : Nat) (l : List StepT) (i : Nat) (w : World) (hb : Bx w bs [.slice A l.length c]) (hi : Bx w bi [.int .i64 (i : Int)]) (hC : Kd.C kStep w A l.length l) (hil : i < l.length) :
    Calls Try.prog 184 #[.agg #[.int .i64 x.piece, .int .i64 x.side], .pointer (some ⟨bs, 0, none⟩), .pointer (some ⟨bi, 0, none⟩)] w
      fun e w' => e = .returned (.bool (decide (comesS x = l.getD i default))) ∧ Below w.heap.size w w' := by
  obtain ⟨ad, e0, y0, y1⟩ := at_Step hC i hil
  subst e0
  have hm := hC.2.1
  obtain ⟨⟨tp, tw⟩, ht⟩ : ∃ t, t = l.getD i default := ⟨_, rfl⟩
  rw [← ht] at y0 y1 ⊢
  obtain ⟨⟨cp, cw⟩, hcs⟩ : ∃ t, t = comesS x := ⟨_, rfl⟩
  rw [← hcs]
  have HCS := Aside0.mk hcs.symm
  have HV : Aside0 (decide ((⟨cp, cw⟩ : StepT) = ⟨tp, tw⟩) = ((cp == tp) && (cw == tw))) := ⟨by
    by_cases h1 : cp = tp
    · by_cases h2 : cw = tw
      · subst h1; subst h2; simp
      · have : ¬ ((⟨cp, cw⟩ : StepT) = ⟨tp, tw⟩) := fun h => h2 (by injection h)
        simp [this, h2]
    · have : ¬ ((⟨cp, cw⟩ : StepT) = ⟨tp, tw⟩) := fun h => h1 (by injection h)
      simp [this, h1]⟩
  obtain ⟨W0, hW0⟩ : ∃ W0, W0 = w.alloc (.cells #[.int .i64 x.piece, .int .i64 x.side] 67) := ⟨_, rfl⟩
  have fb : Below w.heap.size w W0 := by rw [hW0]; exact below_alloc (Below.refl _ _) _
  have XE : Aside0 (Bx W0 w.heap.size [.int .i64 x.piece, .int .i64 x.side]) := ⟨by rw [hW0]; exact Bx.new w _ 67⟩
  have XS := Aside0.mk (hb.below fb)
  have XI := Aside0.mk (hi.below fb)
  replace y0 := pw_cell_below fb y0
  replace y1 := pw_cell_below fb y1
  have Y0 := Aside0.mk y0
  have Y1 := Aside0.mk y1
  have FB := Aside0.mk fb
  have HW0 := Aside0.mk hW0
  have hi0 : (0 : Int) ≤ (i : Int) := by omega
  have hi1 : (i : Int) < (l.length : Int) := by omega
  clear hb hi hC ht hcs fb hW0
  have HS0 : Aside0 (∀ W, Below W0.heap.size W0 W → (Below W0.heap.size W0 W ∧ W.cell? ⟨w.heap.size, 0, none⟩ = some (.int .i64 x.piece) ∧ W.cell? ⟨w.heap.size, 1, none⟩ = some (.int .i64 x.side) ∧ W.cell? ⟨bs, 0, none⟩ = some (.slice (some ad) l.length c) ∧ W.cell? ⟨bi, 0, none⟩ = some (.int .i64 (i : Int)) ∧ W.cell? (ad.add (i * 2)) = some (.int .i64 tp) ∧ W.cell? ⟨(ad.add (i * 2)).block, (ad.add (i * 2)).off + 1, none⟩ = some (.int .i64 tw))) :=
    ⟨fun W hb => ⟨hb, (XE.out.below hb).c 0 _ rfl, (XE.out.below hb).c 1 _ rfl, (XS.out.below hb).c 0 _ rfl, (XI.out.below hb).c 0 _ rfl, pw_cell_below hb Y0.out, pw_cell_below hb Y1.out⟩⟩
  have e0 := XE.out.c 0 _ rfl; have e1 := XE.out.c 1 _ rfl; have s0 := XS.out.c 0 _ rfl; have i0 := XI.out.c 0 _ rfl
  cases h1 : (cp == tp) with
  | false =>
    rw [h1] at HV
    go_enter Try.func184, Try.ntmps184
    go_wp2_with fail
    rw [← HW0.out]
    go_region_held3 (fun W => Below W0.heap.size W0 W ∧ W.cell? ⟨w.heap.size, 0, none⟩ = some (.int .i64 x.piece) ∧ W.cell? ⟨w.heap.size, 1, none⟩ = some (.int .i64 x.side) ∧ W.cell? ⟨bs, 0, none⟩ = some (.slice (some ad) l.length c) ∧ W.cell? ⟨bi, 0, none⟩ = some (.int .i64 (i : Int)) ∧ W.cell? (ad.add (i * 2)) = some (.int .i64 tp) ∧ W.cell? ⟨(ad.add (i * 2)).block, (ad.add (i * 2)).off + 1, none⟩ = some (.int .i64 tw))
      (first | assumption | (with_reducible exact HS0.out _ (by assumption)) | (with_reducible exact HS0.out _ (Below.drew (Below.refl _ _))))
      (first | (go_at_call 181; go_split_ands; (with_reducible refine Calls.mono (comes_any x _) ?_); rintro e w3 ⟨rfl, b3⟩; rw [HCS.out]; have q3 : Below W0.heap.size W0 w3 := below_more (by assumption) b3; clear b3))
    all_goals
      try go_wp2_with fail
      go_ret
      exact ⟨by rw [HV.out]; rfl, below_more FB.out (by assumption)⟩
  | true =>
    cases h2 : (cw == tw) with
    | false =>
      rw [h1, h2] at HV
      go_enter Try.func184, Try.ntmps184
      go_wp2_with fail
      rw [← HW0.out]
      go_region_held3 (fun W => Below W0.heap.size W0 W ∧ W.cell? ⟨w.heap.size, 0, none⟩ = some (.int .i64 x.piece) ∧ W.cell? ⟨w.heap.size, 1, none⟩ = some (.int .i64 x.side) ∧ W.cell? ⟨bs, 0, none⟩ = some (.slice (some ad) l.length c) ∧ W.cell? ⟨bi, 0, none⟩ = some (.int .i64 (i : Int)) ∧ W.cell? (ad.add (i * 2)) = some (.int .i64 tp) ∧ W.cell? ⟨(ad.add (i * 2)).block, (ad.add (i * 2)).off + 1, none⟩ = some (.int .i64 tw))
        (first | assumption | (with_reducible exact HS0.out _ (by assumption)) | (with_reducible exact HS0.out _ (Below.drew (Below.refl _ _))))
        (first | (go_at_call 181; go_split_ands; (with_reducible refine Calls.mono (comes_any x _) ?_); rintro e w3 ⟨rfl, b3⟩; rw [HCS.out]; have q3 : Below W0.heap.size W0 w3 := below_more (by assumption) b3; clear b3))
      all_goals
        try go_wp2_with fail
        go_ret
        exact ⟨by rw [HV.out]; rfl, below_more FB.out (by assumption)⟩
    | true =>
      rw [h1, h2] at HV
      go_enter Try.func184, Try.ntmps184
      go_wp2_with fail
      rw [← HW0.out]
      go_region_held3 (fun W => Below W0.heap.size W0 W ∧ W.cell? ⟨w.heap.size, 0, none⟩ = some (.int .i64 x.piece) ∧ W.cell? ⟨w.heap.size, 1, none⟩ = some (.int .i64 x.side) ∧ W.cell? ⟨bs, 0, none⟩ = some (.slice (some ad) l.length c) ∧ W.cell? ⟨bi, 0, none⟩ = some (.int .i64 (i : Int)) ∧ W.cell? (ad.add (i * 2)) = some (.int .i64 tp) ∧ W.cell? ⟨(ad.add (i * 2)).block, (ad.add (i * 2)).off + 1, none⟩ = some (.int .i64 tw))
        (first | assumption | (with_reducible exact HS0.out _ (by assumption)) | (with_reducible exact HS0.out _ (Below.drew (Below.refl _ _))))
        (first | (go_at_call 181; go_split_ands; (with_reducible refine Calls.mono (comes_any x _) ?_); rintro e w3 ⟨rfl, b3⟩; rw [HCS.out]; have q3 : Below W0.heap.size W0 w3 := below_more (by assumption) b3; clear b3))
      all_goals
        try go_wp2_with fail
        go_ret
        exact ⟨by rw [HV.out]; rfl, below_more FB.out (by assumption)⟩
end Go.Proofs.Ytckcffjnffcjcaa
set_option linter.unusedVariables false
set_option linter.unusedSimpArgs false
namespace Go.Proofs.Ytckcffjnffcjcaa
open Go.RowKit Go.Proofs.YtckcffjnffcjcaaW.PrintWords
set_option maxRecDepth 100000 in
set_option maxHeartbeats 4000000 in
theorem index_any (E : Option Addr) (ce : Nat) (xs : List EndT) (bs bi : Nat) (A : Option Addr) (c : Nat) (l : List StepT) (i : Nat) (w : World) (hE : Kd.C kEnd w E xs.length xs) (hb : Bx w bs [.slice A l.length c]) (hi : Bx w bi [.int .i64 (i : Int)]) (hC : Kd.C kStep w A l.length l) (hil : i < l.length) :
    Calls Try.prog 183 #[.slice E xs.length ce, .func (.func 184) #[] #[.pointer (some ⟨bs, 0, none⟩), .pointer (some ⟨bi, 0, none⟩)]] w
      fun e w' => ∃ r : Int, e = .returned (.int .i64 r) ∧ ((r = -1 ∧ ∀ x ∈ xs, comesS x ≠ l.getD i default) ∨ ∃ q : Nat, r = (q : Int) ∧ q < xs.length ∧ comesS (xs.getD q default) = l.getD i default) ∧ Below w.heap.size w w' := by
  have hm := hE.2.1
  have HE := Aside0.mk hE
  have HB := Aside0.mk hb
  have HI := Aside0.mk hi
  have HC := Aside0.mk hC
  have HL := Aside0.mk hil
  clear hE hb hi hC hil
  go_enter Try.func183, Try.ntmps183
  go_wp2_with fail
  go_loopw [8] (fun v8 wr => ∃ q : Nat, v8 = .int .i64 (q : Int) ∧ q ≤ xs.length ∧ Aside0 (∀ k, k < q → comesS (xs.getD k default) ≠ l.getD i default) ∧ Aside0 (Below w.heap.size w wr)) (fun v8 _ => xs.length - (intOf v8).toNat)
  case atStart => exact ⟨0, rfl, Nat.zero_le _, ⟨fun k hk => by omega⟩, ⟨Below.refl _ _⟩⟩
  case round =>
    obtain ⟨q, rfl, hq, HN, HBr⟩ := hrel
    by_cases hlt : q < xs.length
    · obtain ⟨ad0, e0, y0, y1⟩ := at_End HE.out q hlt
      subst e0
      replace y0 := pw_cell_below HBr.out y0
      replace y1 := pw_cell_below HBr.out y1
      obtain ⟨x, hx⟩ : ∃ x, x = xs.getD q default := ⟨_, rfl⟩
      rw [← hx] at y0 y1
      have HX := Aside0.mk hx
      clear hx
      cases hd : decide (comesS x = l.getD i default) with
      | true =>
        have HD := Aside0.mk hd
        clear hd
        go_wp2_with (go_at_call 184; (with_reducible refine Calls.mono (isStep_any x bs bi A c l i _ (HB.out.below HBr.out) (HI.out.below HBr.out) (Kd.C_below HC.out HBr.out) HL.out) ?_); rintro e w3 ⟨rfl, b3⟩; rw [HD.out]; have B3 := Aside0.mk (below_more HBr.out b3); clear b3)
        go_ret
        exact ⟨(q : Int), rfl, .inr ⟨q, rfl, hlt, by rw [← HX.out]; exact of_decide_eq_true HD.out⟩, B3.out⟩
      | false =>
        have HD := Aside0.mk hd
        clear hd
        go_wp2_with (go_at_call 184; (with_reducible refine Calls.mono (isStep_any x bs bi A c l i _ (HB.out.below HBr.out) (HI.out.below HBr.out) (Kd.C_below HC.out HBr.out) HL.out) ?_); rintro e w3 ⟨rfl, b3⟩; rw [HD.out]; have B3 := Aside0.mk (below_more HBr.out b3); clear b3)
        go_roundw
        case rel => exact ⟨q + 1, by go_num, by omega, ⟨upto_step HN.out (by rw [← HX.out]; exact of_decide_eq_false HD.out)⟩, B3⟩
        case measure => simp [intOf]; omega
    · go_wp2_with fail
      go_ret
      refine ⟨-1, rfl, .inl ⟨rfl, fun x hx => ?_⟩, HBr.out⟩
      obtain ⟨k, hk, rfl⟩ := List.mem_iff_getElem.1 hx
      have := HN.out k (by omega)
      rwa [getD_at xs k hk] at this
end Go.Proofs.Ytckcffjnffcjcaa
set_option linter.unusedVariables false
set_option linter.unusedSimpArgs false
namespace Go.Proofs.Ytckcffjnffcjcaa
/-- The rest of the row from place j on: what is still to be told. -/
def PI (n : NetT) (l : List StepT) (j : Nat) (out : List LieT) : Prop := 1 ≤ j ∧ out.length + 1 ≤ j ∧ liesAll n l = liesGo n (l.getD (j - 1) default) (l.drop j) out
theorem PI.start (n : NetT) (l : List StepT) : PI n l 1 [] := by
  refine ⟨Nat.le_refl _, by simp, ?_⟩
  cases l with
  | nil => rfl
  | cons s l => rfl
theorem PI.stop {n : NetT} {l : List StepT} {j : Nat} {out : List LieT} (h : PI n l j out) (hj : l.length ≤ j) : liesAll n l = some out := by
  rw [h.2.2, List.drop_eq_nil_of_le hj]; rfl
theorem drop_getDP (l : List StepT) (j : Nat) (hj : j < l.length) : l.drop j = l.getD j default :: l.drop (j + 1) := by
  rw [List.drop_eq_getElem_cons hj, getD_at l j hj]
theorem PI.fail {n : NetT} {l : List StepT} {j : Nat} {out : List LieT} (h : PI n l j out) (hj : j < l.length) (hs : stepLie n (l.getD (j - 1) default) (l.getD j default) = none) : liesAll n l = none := by
  rw [h.2.2, drop_getDP l j hj]
  simp only [liesGo, hs]
theorem PI.skip {n : NetT} {l : List StepT} {j : Nat} {out : List LieT} (h : PI n l j out) (hj : j < l.length) (hs : stepLie n (l.getD (j - 1) default) (l.getD j default) = some none) : PI n l (j + 1) out := by
  refine ⟨by omega, by have := h.2.1; omega, ?_⟩
  rw [h.2.2, drop_getDP l j hj]
  simp only [liesGo, hs, Nat.add_sub_cancel]
theorem PI.bad {n : NetT} {l : List StepT} {j : Nat} {out : List LieT} {x : LieT} (h : PI n l j out) (hj : j < l.length) (hs : stepLie n (l.getD (j - 1) default) (l.getD j default) = some (some x)) (ha : addLie out x = none) : liesAll n l = none := by
  rw [h.2.2, drop_getDP l j hj]
  simp only [liesGo, hs, ha]
theorem PI.add {n : NetT} {l : List StepT} {j : Nat} {out o : List LieT} {x : LieT} (h : PI n l j out) (hj : j < l.length) (hs : stepLie n (l.getD (j - 1) default) (l.getD j default) = some (some x)) (ha : addLie out x = some o) : PI n l (j + 1) o := by
  refine ⟨by omega, by have := addLie_len ha; have := h.2.1; omega, ?_⟩
  rw [h.2.2, drop_getDP l j hj]
  simp only [liesGo, hs, ha, Nat.add_sub_cancel]
end Go.Proofs.Ytckcffjnffcjcaa
set_option linter.unusedVariables false
set_option linter.unusedSimpArgs false
namespace Go.Proofs.Ytckcffjnffcjcaa
open Go.RowKit Go.Proofs.YtckcffjnffcjcaaW.PrintWords
theorem cell_put {W : World} {k : Nat} {o : Obj} {a : Addr} (h : a.block ≠ k) : (putMap W k o).cell? a = W.cell? a := by
  unfold World.cell?
  rw [putMap_other W k o h]
theorem lie_get {w : World} {b : Nat} {l : List (Int × Int)} (h : MapOf keyInt (.int .i64) w b l) (k : Int) :
    (Instr.lookup 222 (.map (some b)) (.int .i64 k) true).run Try.prog w = .ok (.tuple #[.int .i64 ((lk l k).getD 0), .bool (lk l k).isSome]) w := by
  have := h.lookup (t := 222) (e := 3) Try.underlying222 (zeroInt w) k true
  refine this.trans ?_
  cases lk l k <;> rfl
theorem lie_put {w : World} {b : Nat} {l : List (Int × Int)} (h : MapOf keyInt (.int .i64) w b l) (k v : Int) :
    ∃ o, (Instr.mapUpdate 222 (.map (some b)) (.int .i64 k) (.int .i64 v)).run Try.prog w = .ok () (putMap w b o) ∧ MapOf keyInt (.int .i64) (putMap w b o) b (up l k v) :=
  h.update (t := 222) (e := 3) Try.underlying222 k v
structure PJ (WA W : World) (v : Value) (bi : Nat) (J : Int) (out : List LieT) (lm : List (Int × Int)) : Prop where
  row : Kd.R kLie 111 W (WA.heap.size + 1) (fun g => g ≠ bi) v out
  map : MapOf keyInt (.int .i64) W WA.heap.size lm
  lies : LiesOf lm out
  box : Bx W bi [.int .i64 J]
  lt : WA.heap.size < bi
  b0 : Below WA.heap.size WA W
section
variable {WA W W1 : World} {v : Value} {bi : Nat} {J : Int} {out : List LieT} {lm : List (Int × Int)}
theorem PJ.below (h : PJ WA W v bi J out lm) (hb : Below W.heap.size W W1) : PJ WA W1 v bi J out lm :=
  ⟨Kd.R_below h.row hb, h.map.below hb, h.lies, h.box.below hb, h.lt, below_more h.b0 hb⟩
theorem PJ.sz (h : PJ WA W v bi J out lm) : WA.heap.size < W.heap.size := h.map.lt
theorem PJ.start (WA : World) : PJ WA ((WA.alloc (.map #[] 0)).alloc (.cells #[.int .i64 1] 3)) (.slice none 0 0) (WA.heap.size + 1) 1 [] [] :=
  ⟨Kd.R_nil .., (MapOf.made keyInt (.int .i64) WA).alloc _, LiesOf.nil, by
    have := Bx.new (WA.alloc (.map #[] 0)) [.int .i64 1] 3
    simpa using this, Nat.lt_succ_self _, below_two _ _ _⟩
/-- The counter's new cell. -/
theorem PJ.next (h : PJ WA W v bi J out lm) (J' : Int) : PJ WA (W.alloc (.cells #[.int .i64 J'] 3)) v W.heap.size J' out lm := by
  have ha := h.below (below_alloc (Below.refl _ _) (.cells #[.int .i64 J'] 3))
  have hb := h.sz
  refine ⟨?_, ha.map, h.lies, Bx.new W [.int .i64 J'] 3, hb, ha.b0⟩
  exact Kd.R_below (Kd.R_mono (Kd.R_bound h.row) (fun g hg => by
      show g ≠ W.heap.size
      have := hg.2.2.1; omega)) (below_alloc (Below.refl _ _) (.cells #[.int .i64 J'] 3))
/-- A lie more. -/
theorem PJ.add {o : Obj} {w9 : World} {v9 : Value} {x : LieT} (h : PJ WA W v bi J out lm) (hn : lk lm x.joint = none) (hM : MapOf keyInt (.int .i64) (putMap W WA.heap.size o) WA.heap.size (up lm x.joint x.lie))
    (hR : Kd.R kLie 111 w9 (WA.heap.size + 1) (fun g => g ≠ bi) v9 (out ++ [x])) (hB : Below (WA.heap.size + 1) (putMap W WA.heap.size o) w9) (hG : (putMap W WA.heap.size o).grownBy w9 v.ownBlock) : PJ WA w9 v9 bi J (out ++ [x]) (up lm x.joint x.lie) := by
  refine ⟨hR, hM.move (hB.block _ (Nat.lt_succ_self _)), h.lies.up hn, (h.box.put (by have := h.lt; omega)).grownP hG (fun he => h.row.1 bi he.symm rfl), h.lt, ?_⟩
  have h1 : Below WA.heap.size WA (putMap W WA.heap.size o) := putMap_below h.b0 (Nat.le_refl _)
  exact h1.trans ⟨hB.os, hB.tape, hB.output, hB.size, fun i hi => hB.block i (by omega)⟩
theorem PJ.rowPut {o : Obj} (h : PJ WA W v bi J out lm) : Kd.R kLie 111 (putMap W WA.heap.size o) (WA.heap.size + 1) (fun g => g ≠ bi) v out :=
  Kd.R_mono (Kd.R_step (Kd.R_bound h.row) (fun g hg hlt => putMap_other W WA.heap.size o (by have := hg.2.1; omega))) (fun g hg => hg.1)
end
end Go.Proofs.Ytckcffjnffcjcaa
set_option linter.unusedVariables false
set_option linter.unusedSimpArgs false
namespace Go.Proofs.Ytckcffjnffcjcaa
open Go.RowKit Go.Proofs.YtckcffjnffcjcaaW.PrintWords
def plOk (n : NetT) (l : List StepT) : Bool := stepsB n l && (liesAll n l).isSome
def plV (n : NetT) (l : List StepT) : List LieT := if stepsB n l = true then (liesAll n l).getD [] else []
theorem pl_bad {n : NetT} {l : List StepT} (h : stepsB n l = false) : plOk n l = false ∧ plV n l = [] := by
  unfold plOk plV; rw [h]; exact ⟨rfl, rfl⟩
theorem steps_long {n : NetT} {l : List StepT} (h : 400 < l.length) : stepsB n l = false := by
  unfold stepsB; rw [decide_eq_false (by omega)]; rfl
theorem steps_one {n : NetT} {l : List StepT} {i : Nat} (hi : i < l.length) (h : stepB n (l.getD i default) = false) : stepsB n l = false := by
  unfold stepsB
  have : l.all (stepB n) = false := by
    rw [List.all_eq_false]
    exact ⟨_, getD_mem l i hi, by rw [h]; simp⟩
  rw [this, Bool.and_false]
theorem steps_all' {n : NetT} {l : List StepT} (h : l.length ≤ 400) (h2 : ∀ k, k < l.length → stepB n (l.getD k default) = true) : stepsB n l = true := by
  unfold stepsB
  rw [decide_eq_true h, Bool.true_and, List.all_eq_true]
  intro x hx
  obtain ⟨k, hk, rfl⟩ := List.mem_iff_getElem.1 hx
  have := h2 k hk
  rwa [getD_at l k hk] at this
theorem across_both {n : NetT} (hg : Good n) {s : StepT} (hs : stepB n s = true) {e : EndT} (he : e = lookS s) : acrossG n e = acrossE n (lookS s) ∧ howG n e = howJ (jOf n (lookS s)) (kOf n (lookS s)) := by
  subst he
  obtain ⟨i, q, hat⟩ := hg.at_ (lookS_ok hs)
  obtain ⟨h1, h2⟩ := acrossG_at hat
  unfold acrossE
  rw [h1, h2, hat.j, hat.k]
  exact ⟨rfl, rfl⟩
theorem pl_fail {n : NetT} {l : List StepT} (h : liesAll n l = none) : plOk n l = false ∧ plV n l = [] := by
  unfold plOk plV
  rw [h]
  refine ⟨by simp, by simp⟩
theorem pl_done {n : NetT} {l : List StepT} (hs : stepsB n l = true) {out : List LieT} (h : liesAll n l = some out) : plOk n l = true ∧ plV n l = out := by
  unfold plOk plV
  rw [h, hs]
  exact ⟨rfl, rfl⟩
theorem at_both {n : NetT} (hg : Good n) {s : StepT} (hs : stepB n s = true) {e : EndT} (he : e = lookS s) : atEnd n e = ((iOf n (lookS s) : Int), (atEnd n e).2) := by
  subst he
  obtain ⟨i, q, hat⟩ := hg.at_ (lookS_ok hs)
  rw [hat.i, hat.eq]
def ptrOf : Value → Addr
  | .pointer (some a) => a
  | _ => ⟨0, 0, none⟩
set_option maxRecDepth 100000 in
set_option maxHeartbeats 8000000 in
theorem implPL_any (n : NetT) (u : (Option Addr × Nat) × (Option Addr × Nat)) (A : Option Addr) (c : Nat) (l : List StepT) (w : World) (hr : RdNet 67 w u n) (hg : Good n) (hC : Kd.C kStep w A l.length l) :
    Calls Try.prog 148 #[.agg #[.slice u.1.1 n.pieces.length u.1.2, .slice u.2.1 n.joints.length u.2.2], .slice A l.length c] w
      fun e w' => ∃ v, e = .returned (.tuple #[v, .bool (plOk n l)]) ∧ Kd.R kLie 111 w' w.heap.size (fun _ => True) v (plV n l) ∧ Below w.heap.size w w' := by
  have HR := Aside0.mk hr
  have HG := Aside0.mk hg
  have HC := Aside0.mk hC
  have hm0 := hr.1.1.2.1
  have hml := hC.2.1
  have hp1 := hg.p1
  obtain ⟨⟨A0, c0⟩, ⟨A1, c1⟩⟩ := u
  obtain ⟨W0, hW0⟩ : ∃ W0 : World, W0 = (w.alloc (.cells #[.slice A0 n.pieces.length c0, .slice A1 n.joints.length c1] 35)).alloc (.cells #[.slice A l.length c] 83) := ⟨_, rfl⟩
  have N0 : Aside0 (Bx W0 w.heap.size [.slice A0 n.pieces.length c0, .slice A1 n.joints.length c1]) := ⟨by rw [hW0]; exact (Bx.new w [.slice A0 n.pieces.length c0, .slice A1 n.joints.length c1] 35).alloc _⟩
  have S0 : Aside0 (Bx W0 (w.heap.size + 1) [.slice A l.length c]) := ⟨by
    have := Bx.new (w.alloc (.cells #[.slice A0 n.pieces.length c0, .slice A1 n.joints.length c1] 35)) [.slice A l.length c] 83
    rw [hW0]; simpa using this⟩
  have B0 : Aside0 (Below w.heap.size w W0) := ⟨by rw [hW0]; exact below_two _ _ _⟩
  have HW0 := Aside0.mk hW0
  clear hr hg hC hW0
  by_cases h400 : (400 : Int) < (l.length : Int)
  · have HV := Aside0.mk (pl_bad (n := n) (steps_long (l := l) (by omega)))
    go_enter Try.func148, Try.ntmps148
    go_wp2_with fail
    refine bodyPost_ret (v := .tuple #[.slice none 0 0, .bool false]) (by simp [results, Try.results148, go_sem]) rfl ⟨.slice none 0 0, by rw [HV.out.1], by rw [HV.out.2]; exact Kd.R_nil .., below_two _ _ _⟩
  · have hmm := @run_makeMap Try.prog
    have s0 := S0.out.c 0 _ rfl
    go_enter Try.func148, Try.ntmps148
    go_wp2_with fail
    rw [← HW0.out]
    clear s0
    go_loopw [23] (fun v23 wr => ∃ i : Nat, v23 = .int .i64 (i : Int) ∧ i ≤ l.length ∧ Aside0 (∀ k, k < i → stepB n (l.getD k default) = true) ∧ Aside0 (Below W0.heap.size W0 wr)) (fun v23 _ => l.length - (intOf v23).toNat)
    case atStart => exact ⟨0, rfl, Nat.zero_le _, ⟨fun k hk => by omega⟩, ⟨Below.refl _ _⟩⟩
    case round =>
      obtain ⟨i, rfl, hi, HT, HBr⟩ := hrel
      have N1 := Aside0.mk (N0.out.below HBr.out)
      by_cases hlt : i < l.length
      · obtain ⟨ad0, e0, y0, y1⟩ := at_Step HC.out i hlt
        subst e0
        have hbw := below_more B0.out HBr.out
        replace y0 := pw_cell_below hbw y0
        replace y1 := pw_cell_below hbw y1
        have HBW := Aside0.mk hbw
        obtain ⟨⟨sp, sw⟩, hs⟩ : ∃ s, s = l.getD i default := ⟨_, rfl⟩
        rw [← hs] at y0 y1
        have N2 := Aside0.mk (N1.out.alloc (.cells #[.int .i64 sp, .int .i64 sw] 85))
        have B2 := Aside0.mk (below_alloc HBr.out (.cells #[.int .i64 sp, .int .i64 sw] 85))
        have BW2 := Aside0.mk (below_alloc hbw (.cells #[.int .i64 sp, .int .i64 sw] 85))
        have n0 := N2.out.c 0 _ rfl
        cases hb : stepB n ⟨sp, sw⟩ with
        | true =>
          obtain ⟨h0, h1, h2⟩ := stepB_iff.1 hb
          simp only at h0 h1 h2
          have HSB := Aside0.mk (show stepB n (l.getD i default) = true by rw [← hs]; exact hb)
          have q0 : ¬ sp < 0 := by omega
          have q1 : ¬ (n.pieces.length : Int) ≤ sp := by omega
          clear hs hb hbw h0 h1
          rcases h2 with h2 | h2
          · subst h2
            go_wp2_with fail
            go_roundw
            case rel => exact ⟨i + 1, by go_num, by omega, ⟨upto_step HT.out HSB.out⟩, B2⟩
            case measure => simp [intOf]; omega
          · subst h2
            go_wp2_with fail
            go_roundw
            case rel => exact ⟨i + 1, by go_num, by omega, ⟨upto_step HT.out HSB.out⟩, B2⟩
            case measure => simp [intOf]; omega
        | false =>
          have HV := Aside0.mk (pl_bad (steps_one hlt (by rw [← hs]; exact hb)))
          have hnb : ¬ (0 ≤ sp ∧ sp < (n.pieces.length : Int) ∧ (sw = 1 ∨ sw = -1)) := fun h => by rw [stepB_iff.2 h] at hb; cases hb
          clear hs hb hbw
          by_cases q0 : sp < 0
          · clear hnb
            go_wp2_with fail
            refine bodyPost_ret (v := .tuple #[.slice none 0 0, .bool false]) (by simp [results, Try.results148, go_sem]) rfl ⟨.slice none 0 0, by rw [HV.out.1], by rw [HV.out.2]; exact Kd.R_nil .., BW2.out⟩
          · by_cases q1 : (n.pieces.length : Int) ≤ sp
            · clear hnb
              go_wp2_with fail
              refine bodyPost_ret (v := .tuple #[.slice none 0 0, .bool false]) (by simp [results, Try.results148, go_sem]) rfl ⟨.slice none 0 0, by rw [HV.out.1], by rw [HV.out.2]; exact Kd.R_nil .., BW2.out⟩
            · have q2 : (sw != 1) = true := by
                have : ¬ sw = 1 := fun h => hnb ⟨by omega, by omega, .inl h⟩
                simpa using this
              have q3 : (sw != -1) = true := by
                have : ¬ sw = -1 := fun h => hnb ⟨by omega, by omega, .inr h⟩
                simpa using this
              clear hnb
              go_wp2_with fail
              refine bodyPost_ret (v := .tuple #[.slice none 0 0, .bool false]) (by simp [results, Try.results148, go_sem]) rfl ⟨.slice none 0 0, by rw [HV.out.1], by rw [HV.out.2]; exact Kd.R_nil .., BW2.out⟩
      · have HT1 := Aside0.mk (show ∀ k, k < l.length → stepB n (l.getD k default) = true from fun k hk => HT.out k (by omega))
        have HSB := Aside0.mk (steps_all' (n := n) (l := l) (by omega) HT1.out)
        have HBW := Aside0.mk (below_more B0.out HBr.out)
        have S1 := Aside0.mk (S0.out.below HBr.out)
        go_wp2_with fail
        clear hlt hi
        obtain ⟨WA, hWA⟩ : ∃ WA : World, WA = wr := ⟨_, rfl⟩
        rw [← hWA] at HBr N1 HBW S1 ⊢
        clear hWA
        go_loopw [8, 10] (fun v8 v10 wr => ∃ (j bi : Nat) (out : List LieT) (lm : List (Int × Int)) (J : Int), v10 = .pointer (some ⟨bi, 0, none⟩) ∧ J = (j : Int) ∧ 1 ≤ j ∧ j ≤ l.length + 1 ∧ Aside0 (PI n l j out) ∧ Aside0 (PJ WA wr v8 bi J out lm)) (fun v8 v10 wr => l.length + 1 - (intOf ((wr.cell? (ptrOf v10)).getD (.int .i64 0))).toNat)
        case atStart => exact ⟨1, WA.heap.size + 1, [], [], 1, rfl, rfl, Nat.le_refl _, by omega, ⟨PI.start n l⟩, ⟨PJ.start WA⟩⟩
        case round =>
          obtain ⟨j, bi, out, lm, J, rfl, hJ, hj1, hj2, HP, HQ⟩ := hrel
          have HBt := Aside0.mk (below_more HBW.out HQ.out.b0)
          have N2 := Aside0.mk (N1.out.below HQ.out.b0)
          have S2 := Aside0.mk (S1.out.below HQ.out.b0)
          have HJ := Aside0.mk hJ
          have i0 := HQ.out.box.c 0 _ rfl
          have s0 := S2.out.c 0 _ rfl
          by_cases hlt : j < l.length
          · have hJ1 : J < (l.length : Int) := by omega
            obtain ⟨k, rfl⟩ : ∃ k, j = k + 1 := ⟨j - 1, by omega⟩
            have hkl : k < l.length := by omega
            obtain ⟨ad0, e0, y0, y1⟩ := at_Step HC.out k hkl
            subst e0
            replace y0 := pw_cell_below HBt.out y0
            replace y1 := pw_cell_below HBt.out y1
            have hst := HT1.out k hkl
            have htt := HT1.out (k + 1) hlt
            have HTT := Aside0.mk htt
            obtain ⟨⟨sp, sw⟩, hs⟩ : ∃ s, s = l.getD k default := ⟨_, rfl⟩
            rw [← hs] at y0 y1 hst
            have HS := Aside0.mk hs
            have HST := Aside0.mk hst
            obtain ⟨⟨lp, ls⟩, hlk⟩ : ∃ e, e = lookS ⟨sp, sw⟩ := ⟨_, rfl⟩
            have HLK := Aside0.mk hlk.symm
            have HA := Aside0.mk (across_both HG.out hst hlk)
            have hJ2 : IntKind.i64.wrap (J - 1) = (k : Int) := by rw [wrap64 (by omega) (by omega)]; omega
            have HJ3 : Aside0 (Go.RowKit.wrap64 (J + 1) = ((k + 1 + 1 : Nat) : Int)) := ⟨by rw [hJ]; unfold Go.RowKit.wrap64; push_cast; omega⟩
            have hk0 : (0 : Int) ≤ (k : Int) := by omega
            have hk1 : (k : Int) < (l.length : Int) := by omega
            clear hs hst htt hlk hJ hj1 hj2
            have n0 := N2.out.c 0 _ rfl; have n1 := N2.out.c 1 _ rfl
            have HS0 : Aside0 (∀ W, Below wr.heap.size wr W → (Below wr.heap.size wr W ∧ W.cell? ⟨w.heap.size, 0, none⟩ = some (.slice A0 n.pieces.length c0) ∧ W.cell? ⟨w.heap.size, 1, none⟩ = some (.slice A1 n.joints.length c1) ∧ W.cell? ⟨w.heap.size + 1, 0, none⟩ = some (.slice (some ad0) l.length c) ∧ W.cell? ⟨bi, 0, none⟩ = some (.int .i64 J) ∧ W.cell? (ad0.add (k * 2)) = some (.int .i64 sp) ∧ W.cell? ⟨(ad0.add (k * 2)).block, (ad0.add (k * 2)).off + 1, none⟩ = some (.int .i64 sw))) :=
              ⟨fun W hb => ⟨hb, (N2.out.below hb).c 0 _ rfl, (N2.out.below hb).c 1 _ rfl, (S2.out.below hb).c 0 _ rfl, (HQ.out.below hb).box.c 0 _ rfl, pw_cell_below hb y0, pw_cell_below hb y1⟩⟩
            go_wp2_with fail
            go_region_held3 (fun W => Below wr.heap.size wr W ∧ W.cell? ⟨w.heap.size, 0, none⟩ = some (.slice A0 n.pieces.length c0) ∧ W.cell? ⟨w.heap.size, 1, none⟩ = some (.slice A1 n.joints.length c1) ∧ W.cell? ⟨w.heap.size + 1, 0, none⟩ = some (.slice (some ad0) l.length c) ∧ W.cell? ⟨bi, 0, none⟩ = some (.int .i64 J) ∧ W.cell? (ad0.add (k * 2)) = some (.int .i64 sp) ∧ W.cell? ⟨(ad0.add (k * 2)).block, (ad0.add (k * 2)).off + 1, none⟩ = some (.int .i64 sw))
              (first | assumption | (with_reducible exact HS0.out _ (by assumption)) | (with_reducible exact HS0.out _ (Below.drew (Below.refl _ _))))
              (first
                | (go_at_call 155; go_split_ands; (with_reducible refine Calls.mono (looked_any ⟨sp, sw⟩ _) ?_); rintro e w3 ⟨rfl, b3⟩; rw [HLK.out]; have q3 : Below wr.heap.size wr w3 := below_more (by assumption) b3; clear b3)
                | (go_at_call 136; go_split_ands; (with_reducible refine Calls.mono (over_any n ((A0, c0), (A1, c1)) ⟨lp, ls⟩ _ (HR.out.below (below_more HBt.out (by assumption))) HG.out) ?_); rintro e w4 ⟨v1, v2, rfl, hr1, hr2, b4⟩; have q4 : Below wr.heap.size wr w4 := below_more (by assumption) b4; have B4 := Aside0.mk q4; have X1 := Aside0.mk (Kd.R_lower hr1 (Below.size (w := wr) (by assumption))); have X2 := Aside0.mk (Kd.R_lower hr2 (Below.size (w := wr) (by assumption))); clear b4 hr1 hr2))
            all_goals
              rw [HA.out.1] at X1
              rw [HA.out.2] at X2
              obtain ⟨A4, c4, e4, hc4, hC4⟩ := Kd.R_reads X1.out
              obtain ⟨A5, c5, e5, hc5, hC5⟩ := Kd.R_reads X2.out
              subst e4 e5
              have HC4 := Aside0.mk hC4
              have HC5 := Aside0.mk hC5
              have hm5 := hC5.2.1
              clear hC4 hC5 hc4 hc5
              have Q4 := Aside0.mk (HQ.out.below B4.out)
              have S4 := Aside0.mk (S2.out.below B4.out)
              have N4 := Aside0.mk (N2.out.below B4.out)
              have hmf : ∀ (fn : Fn) (first cap : Array Value) (w : World), (Instr.makeFunc fn first cap).run Try.prog w = .ok (.func fn first cap) w := fun _ _ _ _ => rfl
              go_wp2_with fail
              (with_reducible refine Calls.mono (index_any A4 c4 _ (w.heap.size + 1) bi (some ad0) c l (k + 1) _ HC4.out S4.out (by rw [HJ.out] at Q4; exact Q4.out.box) (Kd.C_below HC.out (below_more HBt.out B4.out)) hlt) ?_)
              rintro e w5 ⟨r, rfl, hd, b5⟩
              have Q5 := Aside0.mk (Q4.out.below b5)
              have S5 := Aside0.mk (S4.out.below b5)
              have N5 := Aside0.mk (N4.out.below b5)
              have B5 := Aside0.mk (below_more (below_more HBt.out B4.out) b5)
              have C5 := Aside0.mk (Kd.C_below HC5.out b5)
              have y50 := pw_cell_below (below_more B4.out b5) y0
              have y51 := pw_cell_below (below_more B4.out b5) y1
              clear b5 y0 y1 i0 s0 n0 n1
              rcases hd with ⟨rfl, hn⟩ | ⟨q, rfl, hq, hc⟩
              · have HV := Aside0.mk (pl_fail (HP.out.fail hlt (show stepLie n (l.getD k default) (l.getD (k + 1) default) = none by rw [← HS.out]; exact stepLie_none HG.out HST.out HTT.out hn)))
                clear hn
                go_wp2_with fail
                refine bodyPost_ret (v := .tuple #[.slice none 0 0, .bool false]) (by simp [results, Try.results148, go_sem]) rfl ⟨.slice none 0 0, by rw [HV.out.1], by rw [HV.out.2]; exact Kd.R_nil .., B5.out⟩
              · have HSL := Aside0.mk (stepLie_some HG.out HST.out HTT.out hq hc)
                have hqh := (how_at HG.out (lookS_ok HST.out) hq).1
                obtain ⟨ad5, e5, z0⟩ := at_Int C5.out q hqh
                subst e5
                have hqi : (q : Int) < ((howJ (jOf n (lookS ⟨sp, sw⟩)) (kOf n (lookS ⟨sp, sw⟩))).length : Int) := by omega
                have hq0 : (0 : Int) ≤ (q : Int) := by omega
                have hqn : ¬ (q : Int) < 0 := by omega
                obtain ⟨LH, hLH⟩ : ∃ x, x = (howJ (jOf n (lookS ⟨sp, sw⟩)) (kOf n (lookS ⟨sp, sw⟩))).length := ⟨_, rfl⟩
                rw [← hLH] at hqi hm5 ⊢
                obtain ⟨h, hh⟩ : ∃ x, x = (howJ (jOf n (lookS ⟨sp, sw⟩)) (kOf n (lookS ⟨sp, sw⟩))).getD q 0 := ⟨_, rfl⟩
                rw [← hh] at z0 HSL
                have HBL : Aside0 (ad5.block ≠ WA.heap.size) := ⟨by
                  have h1 := Kd.R_base X2.out ad5.block rfl
                  have h2 := HQ.out.sz
                  omega⟩
                clear hq hc hqh hLH hh
                have i5 := Q5.out.box.c 0 _ rfl
                by_cases hz : h = 0
                · subst hz
                  rw [if_pos rfl] at HSL
                  go_wp2_with fail
                  go_roundw
                  case rel => exact ⟨k + 1 + 1, w5.heap.size, out, lm, _, rfl, HJ3.out, by omega, by omega, ⟨HP.out.skip hlt (show stepLie n (l.getD k default) (l.getD (k + 1) default) = some none by rw [← HS.out]; exact HSL.out)⟩, ⟨Q5.out.next _⟩⟩
                  case measure =>
                    have e1 := (Q5.out.next (Go.RowKit.wrap64 (J + 1))).box.c 0 _ rfl
                    have e2 := HQ.out.box.c 0 _ rfl
                    have e3 := HJ.out
                    simp [ptrOf, intOf, e1, e2, HJ3.out]
                    omega
                · rw [if_neg hz] at HSL
                  have hzb : (h == 0) = false := by simpa using hz
                  obtain ⟨I, hI⟩ : ∃ I, I = iOf n (lookS ⟨sp, sw⟩) := ⟨_, rfl⟩
                  obtain ⟨K, hK⟩ : ∃ K, K = (atEnd n ⟨lp, ls⟩).2 := ⟨_, rfl⟩
                  have HAT := Aside0.mk (show atEnd n ⟨lp, ls⟩ = ((I : Int), K) from by rw [hI, hK]; exact at_both HG.out HST.out HLK.out.symm)
                  rw [← hI] at HSL
                  clear hI hK hz
                  have HT0 : Aside0 (∀ W, Below w5.heap.size w5 W → (Below w5.heap.size w5 W ∧ W.cell? ⟨w.heap.size, 0, none⟩ = some (.slice A0 n.pieces.length c0) ∧ W.cell? ⟨w.heap.size, 1, none⟩ = some (.slice A1 n.joints.length c1) ∧ W.cell? ⟨w.heap.size + 1, 0, none⟩ = some (.slice (some ad0) l.length c) ∧ W.cell? ⟨bi, 0, none⟩ = some (.int .i64 J) ∧ W.cell? (ad0.add (k * 2)) = some (.int .i64 sp) ∧ W.cell? ⟨(ad0.add (k * 2)).block, (ad0.add (k * 2)).off + 1, none⟩ = some (.int .i64 sw))) :=
                    ⟨fun W hb => ⟨hb, (N5.out.below hb).c 0 _ rfl, (N5.out.below hb).c 1 _ rfl, (S5.out.below hb).c 0 _ rfl, (Q5.out.below hb).box.c 0 _ rfl, pw_cell_below hb y50, pw_cell_below hb y51⟩⟩
                  have n0 := N5.out.c 0 _ rfl; have n1 := N5.out.c 1 _ rfl; have s0 := S5.out.c 0 _ rfl
                  have Z0 := Aside0.mk z0
                  clear y50 y51
                  go_wp2_with fail
                  go_region_held3 (fun W => Below w5.heap.size w5 W ∧ W.cell? ⟨w.heap.size, 0, none⟩ = some (.slice A0 n.pieces.length c0) ∧ W.cell? ⟨w.heap.size, 1, none⟩ = some (.slice A1 n.joints.length c1) ∧ W.cell? ⟨w.heap.size + 1, 0, none⟩ = some (.slice (some ad0) l.length c) ∧ W.cell? ⟨bi, 0, none⟩ = some (.int .i64 J) ∧ W.cell? (ad0.add (k * 2)) = some (.int .i64 sp) ∧ W.cell? ⟨(ad0.add (k * 2)).block, (ad0.add (k * 2)).off + 1, none⟩ = some (.int .i64 sw))
                    (first | assumption | (with_reducible exact HT0.out _ (by assumption)) | (with_reducible exact HT0.out _ (Below.drew (Below.refl _ _))))
                    (first
                      | (go_at_call 155; go_split_ands; (with_reducible refine Calls.mono (looked_any ⟨sp, sw⟩ _) ?_); rintro e w6 ⟨rfl, b6⟩; rw [HLK.out]; have q6 : Below w5.heap.size w5 w6 := below_more (by assumption) b6; clear b6)
                      | (go_at_call 134; go_split_ands; (with_reducible refine Calls.mono (at_any n ((A0, c0), (A1, c1)) ⟨lp, ls⟩ _ (HR.out.below (below_more B5.out (by assumption)))) ?_); rintro e w7 ⟨rfl, b7⟩; rw [HAT.out]; have q7 : Below w5.heap.size w5 w7 := below_more (by assumption) b7; have B7 := Aside0.mk q7; clear b7))
                  all_goals
                    have Q7 := Aside0.mk (Q5.out.below B7.out)
                    have i7 := Q7.out.box.c 0 _ rfl
                    have z7 := pw_cell_below B7.out Z0.out
                    clear z0 i5 n0 n1 s0 Z0
                    cases hl : lk lm (I : Int) with
                    | none =>
                      have hg := lie_get Q7.out.map (I : Int)
                      rw [hl] at hg
                      simp only [Option.getD_none, Option.isSome_none] at hg
                      obtain ⟨o8, hput, hM8⟩ := lie_put Q7.out.map (I : Int) h
                      have HL := Aside0.mk hl
                      have M8 := Aside0.mk hM8
                      obtain ⟨W8, hW8⟩ : ∃ W8, W8 = putMap w7 WA.heap.size o8 := ⟨_, rfl⟩
                      have HW8 := Aside0.mk hW8
                      have z8 : W8.cell? (ad5.add q) = some (.int .i64 h) := by rw [hW8]; exact (cell_put (a := ad5.add q) (by have := HBL.out; unfold Addr.add; split <;> exact this)).trans z7
                      have hr8 := Q7.out.rowPut (o := o8)
                      have hs8 : WA.heap.size + 1 ≤ W8.heap.size := by rw [hW8]; unfold putMap; simp; exact Q7.out.sz
                      have hs8' : bi < W8.heap.size := by rw [hW8]; unfold putMap; simp; exact Q7.out.box.lt
                      rw [← hW8] at hput hr8
                      have HR8 := Aside0.mk hr8
                      have HS8 := Aside0.mk hs8
                      have HS8' := Aside0.mk hs8'
                      have HOL := Aside0.mk (show out.length ≤ 400 from by have := HP.out.2.1; omega)
                      clear hl hM8 hW8 hr8 hs8 hs8'
                      go_wp2_with ((with_reducible refine gate_callP (b := .append) (xs := #[.tmp 103, .tmp 110]) rfl ?_); at_builtin; refine Kd.R_append kLie (w0 := W8) (WA.heap.size + 1) rfl (.tmp 103) (.tmp 110) 95 111 (.agg #[.int .i64 0, .int .i64 0]) 16 rfl Try.underlying95 info111 rfl (by decide) (by omega) u8 out ⟨I, h⟩ [.int .i64 I, .int .i64 h] (fun g => g ≠ bi) (fun _ => False) rfl (by first | (go_simp; done) | (go_simp; rfl)) (kLie_mkM _ _ _ ⟨I, h⟩) (fun _ hk => hk.elim) (fun g hg => by have := HS8'.out; show g ≠ bi; omega) HR8.out (Below.refl _ _) HS8.out (by have := HOL.out; omega) ?_; intro v9 w9 hR9 hB9 hG9 hat9; have Q9 := Aside0.mk (PJ.add (x := ⟨I, h⟩) Q7.out HL.out M8.out hR9 (by rw [← HW8.out]; exact hB9) (by rw [← HW8.out]; exact hG9)); have i9 := Q9.out.box.c 0 _ rfl; clear hR9 hB9 hG9 hat9)
                      go_roundw
                      case rel => exact ⟨k + 1 + 1, w9.heap.size, _, _, _, rfl, HJ3.out, by omega, by omega, ⟨HP.out.add hlt (show stepLie n (l.getD k default) (l.getD (k + 1) default) = _ by rw [← HS.out]; exact HSL.out) (Q7.out.lies.lacks HL.out)⟩, ⟨Q9.out.next _⟩⟩
                      case measure =>
                        have e1 := (Q9.out.next (Go.RowKit.wrap64 (J + 1))).box.c 0 _ rfl
                        have e2 := HQ.out.box.c 0 _ rfl
                        have e3 := HJ.out
                        simp [ptrOf, intOf, e1, e2, HJ3.out]
                        omega
                    | some v =>
                      have hg := lie_get Q7.out.map (I : Int)
                      rw [hl] at hg
                      simp only [Option.getD_some, Option.isSome_some] at hg
                      have HAD := Aside0.mk (Q7.out.lies.has (x := ⟨I, h⟩) hl)
                      clear hl
                      by_cases hv : v = h
                      · subst hv
                        rw [if_pos rfl] at HAD
                        have hvv : (v != v) = false := by simp
                        go_wp2_with fail
                        go_roundw
                        case rel => exact ⟨k + 1 + 1, w7.heap.size, out, lm, _, rfl, HJ3.out, by omega, by omega, ⟨HP.out.add hlt (show stepLie n (l.getD k default) (l.getD (k + 1) default) = _ by rw [← HS.out]; exact HSL.out) HAD.out⟩, ⟨Q7.out.next _⟩⟩
                        case measure =>
                          have e1 := (Q7.out.next (Go.RowKit.wrap64 (J + 1))).box.c 0 _ rfl
                          have e2 := HQ.out.box.c 0 _ rfl
                          have e3 := HJ.out
                          simp [ptrOf, intOf, e1, e2, HJ3.out]
                          omega
                      · rw [if_neg hv] at HAD
                        have hvv : (v != h) = true := by simpa using hv
                        have HV := Aside0.mk (pl_fail (HP.out.bad hlt (show stepLie n (l.getD k default) (l.getD (k + 1) default) = _ by rw [← HS.out]; exact HSL.out) HAD.out))
                        have B9 := Aside0.mk (below_more B5.out B7.out)
                        clear hv
                        go_wp2_with fail
                        refine bodyPost_ret (v := .tuple #[.slice none 0 0, .bool false]) (by simp [results, Try.results148, go_sem]) rfl ⟨.slice none 0 0, by rw [HV.out.1], by rw [HV.out.2]; exact Kd.R_nil .., B9.out⟩
          · have HD := Aside0.mk (pl_done HSB.out (HP.out.stop (by omega)))
            have hJ1 : ¬ J < (l.length : Int) := by omega
            clear hlt hj1 hj2 hJ
            go_wp2_with fail
            refine bodyPost_ret (v := .tuple #[u8, .bool true]) (by simp [results, Try.results148, go_sem]) rfl ⟨u8, by rw [HD.out.1], by rw [HD.out.2]; exact Kd.R_lower (Kd.R_mono HQ.out.row (fun _ _ => trivial)) (by have := HBW.out.size; omega), HBt.out⟩
end Go.Proofs.Ytckcffjnffcjcaa
set_option linter.unusedVariables false
set_option linter.unusedSimpArgs false
namespace Go.Proofs.Ytckcffjnffcjcaa
open Go.RowKit Go.Proofs.YtckcffjnffcjcaaW.PrintWords
def encC (c : CostT) : Value := .agg #[.int .i64 c.1, .int .i64 c.2]
/-- How far from the beginning of a spot's piece, in the spot's own way. -/
def inbS (n : NetT) (b : SpotT) : Int := if b.way = -1 then lenP n b.piece - b.at_ else b.at_
theorem inbS_bd {n : NetT} {b : SpotT} (hg : Good n) (h : spotB n b = true) : 0 ≤ inbS n b ∧ inbS n b ≤ 10000000 := by
  have h1 := spotB_iff.1 h
  have h2 := hg.len h1.1 h1.2.1
  unfold inbS
  split <;> omega
structure BI (opn left : List (StepT × CostT)) (s : StepT) (c : CostT) : Prop where
  sub : ∀ p ∈ left, p ∈ opn
  le : ∀ p ∈ opn, p ∈ left ∨ leC c p.2
  is : (s, c) ∈ opn ∨ (c = (1152921504606846976, 0) ∧ ∀ p ∈ opn, p ∈ left)
theorem BI.start (opn : List (StepT × CostT)) (s : StepT) : BI opn opn s (1152921504606846976, 0) := ⟨fun p h => h, fun p h => .inl h, .inr ⟨rfl, fun p h => h⟩⟩
theorem BI.take {opn left left' : List (StepT × CostT)} {s k : StepT} {c v : CostT} (h : BI opn left s c) (hk : (k, v) ∈ left) (h1 : ∀ p, p ∈ left ↔ p = (k, v) ∨ p ∈ left') (hlt : ltC v c = true) : BI opn left' k v := by
  refine ⟨fun p hp => h.sub p ((h1 p).2 (.inr hp)), fun p hp => ?_, .inl (h.sub _ hk)⟩
  rcases h.le p hp with h2 | h2
  · rcases (h1 p).1 h2 with e | e
    · rw [e]; exact .inr (leC_refl _)
    · exact .inl e
  · exact .inr (leC_trans (ltC_le hlt) h2)
theorem BI.leave {opn left left' : List (StepT × CostT)} {s k : StepT} {c v : CostT} (h : BI opn left s c) (hk : (k, v) ∈ left) (h1 : ∀ p, p ∈ left ↔ p = (k, v) ∨ p ∈ left') (hlt : ltC v c = false) (hv : v.1 ≤ 2010000000) : BI opn left' s c := by
  refine ⟨fun p hp => h.sub p ((h1 p).2 (.inr hp)), fun p hp => ?_, ?_⟩
  · rcases h.le p hp with h2 | h2
    · rcases (h1 p).1 h2 with e | e
      · rw [e]; exact .inr (leC_iff.2 hlt)
      · exact .inl e
    · exact .inr h2
  · rcases h.is with h2 | ⟨h2, _⟩
    · exact .inl h2
    · have : ltC v c = true := by rw [h2, ltC_iff]; left; show v.1 < 1152921504606846976; omega
      rw [this] at hlt; cases hlt
theorem BI.done {opn : List (StepT × CostT)} {s : StepT} {c : CostT} (h : BI opn [] s c) (hne : opn ≠ []) : (s, c) ∈ opn ∧ ∀ p ∈ opn, leC c p.2 := by
  refine ⟨?_, fun p hp => (h.le p hp).resolve_left (by simp)⟩
  rcases h.is with h2 | ⟨_, h2⟩
  · exact h2
  · cases opn with
    | nil => exact absurd rfl hne
    | cons p opn => exact absurd (h2 p List.mem_cons_self) (by simp)
def mapSz (W : World) (b : Nat) : Nat := match W.heap[b]? with
  | some (.map es _) => es.size
  | _ => 0
theorem MapOf.size {P : Program} {κ ν : Type} {K : KeyEnc P κ} {V : ν → Value} {w : World} {b : Nat} {l : List (κ × ν)} (h : MapOf K V w b l) : mapSz w b = l.length := by
  obtain ⟨⟨es, clock, h1, h2, _⟩, _⟩ := h
  unfold mapSz
  rw [h1]
  have := congrArg List.length h2
  simpa using this
theorem MapOf.mem_lk' {P : Program} {κ ν : Type} [DecidableEq κ] {K : KeyEnc P κ} {V : ν → Value} {w : World} {b : Nat} {l : List (κ × ν)} (h : MapOf K V w b l) {k : κ} {v : ν} (hm : (k, v) ∈ l) : lk l k = some v := mem_lk h.nodup hm
set_option maxRecDepth 100000 in
set_option maxHeartbeats 4000000 in
theorem costLess_any (a b : CostT) (w : World) :
    Calls Try.prog 182 #[.agg #[.int .i64 a.1, .int .i64 a.2], .agg #[.int .i64 b.1, .int .i64 b.2]] w fun e w' => e = .returned (.bool (ltC a b)) ∧ Below w.heap.size w w' := by
  obtain ⟨a1, a2⟩ := a
  obtain ⟨b1, b2⟩ := b
  obtain ⟨W0, hW0, hA, hB, fb0, hz0⟩ := box2 w [.int .i64 a1, .int .i64 a2] [.int .i64 b1, .int .i64 b2] 217 217
  have FB := Aside0.mk fb0
  have HW := Aside0.mk hW0
  have x0 := hA.c 0 _ rfl; have x1 := hA.c 1 _ rfl
  have y0 := hB.c 0 _ rfl; have y1 := hB.c 1 _ rfl
  clear fb0 hW0 hA hB
  go_enter Try.func182, Try.ntmps182
  go_upto_region 1 with (fail)
  rw [← HW.out]
  by_cases h1 : a1 < b1
  · have HV : Aside0 (ltC (a1, a2) (b1, b2) = true) := ⟨by rw [ltC_iff]; exact .inl h1⟩
    go_wp2_with fail
    go_ret
    exact ⟨by rw [HV.out]; rfl, FB.out⟩
  · by_cases h2 : a1 = b1
    · subst h2
      have e2 : (a1 == a1) = true := by simp
      have HV : Aside0 (ltC (a1, a2) (a1, b2) = decide (a2 < b2)) := ⟨by unfold ltC; simp⟩
      go_wp2_with fail
      go_ret
      exact ⟨by rw [HV.out]; rfl, FB.out⟩
    · have e2 : (a1 == b1) = false := by simpa using h2
      have HV : Aside0 (ltC (a1, a2) (b1, b2) = false) := ⟨by unfold ltC; simp [h1, h2]⟩
      go_wp2_with fail
      go_ret
      exact ⟨by rw [HV.out]; rfl, FB.out⟩
structure CO (w : World) (nv : List Value) (mk mo cb : Nat) (known : List (StepT × CostT)) (c1 c2 : Int) (eb : Nat) (ve : Value) (E : List EndT) (W : World) (opn : List (StepT × CostT)) : Prop where
  o : MapOf keyStep encC W mo opn
  k : MapOf keyStep encC W mk known
  n : Bx W w.heap.size nv
  c : Bx W cb [.int .i64 c1, .int .i64 c2]
  e : kEnd.R 67 W eb (fun _ => True) ve E
  b0 : Below w.heap.size w W
  ne : mk ≠ mo ∧ w.heap.size < mo ∧ mo < cb ∧ mo < eb
section
variable {w W W1 : World} {nv : List Value} {mk mo cb eb : Nat} {known opn opn' : List (StepT × CostT)} {c1 c2 : Int} {ve : Value} {E : List EndT}
theorem CO.below (h : CO w nv mk mo cb known c1 c2 eb ve E W opn) (hb : Below W.heap.size W W1) : CO w nv mk mo cb known c1 c2 eb ve E W1 opn :=
  ⟨h.o.below hb, h.k.below hb, h.n.below hb, h.c.below hb, Kd.R_below h.e hb, below_more h.b0 hb, h.ne⟩
theorem CO.put {ob : Obj} (h : CO w nv mk mo cb known c1 c2 eb ve E W opn) (hm : MapOf keyStep encC (putMap W mo ob) mo opn') : CO w nv mk mo cb known c1 c2 eb ve E (putMap W mo ob) opn' := by
  have K : KeepM W (putMap W mo ob) mo mo := ⟨W, mo, ob, rfl, .inl rfl, Below.refl _ _⟩
  have hne := h.ne
  exact ⟨hm, h.k.put hne.1, h.n.put (by omega), h.c.put (by omega), K.row h.e hne.2.2.2 hne.2.2.2, putMap_below h.b0 (by omega), hne⟩
end
theorem costZero (w : World) : (zeroValue 217).run Try.prog w = .ok (.agg #[.int .i64 0, .int .i64 0]) w := by kernel_rfl
theorem cost_get {w : World} {b : Nat} {l : List (StepT × CostT)} (h : MapOf keyStep encC w b l) (p y : Int) :
    (∃ c, lk l ⟨p, y⟩ = some c ∧ (Instr.lookup 214 (.map (some b)) (.agg #[.int .i64 p, .int .i64 y]) true).run Try.prog w = .ok (.tuple #[.agg #[.int .i64 c.1, .int .i64 c.2], .bool true]) w) ∨
    (lk l ⟨p, y⟩ = none ∧ (Instr.lookup 214 (.map (some b)) (.agg #[.int .i64 p, .int .i64 y]) true).run Try.prog w = .ok (.tuple #[.agg #[.int .i64 0, .int .i64 0], .bool false]) w) := by
  have h1 := h.lookup (t := 214) (e := 217) Try.underlying214 (costZero w) ⟨p, y⟩ true
  cases hk : lk l ⟨p, y⟩ with
  | some c => rw [hk] at h1; exact .inl ⟨c, rfl, h1⟩
  | none => rw [hk] at h1; exact .inr ⟨rfl, h1⟩
theorem cost_put {w : World} {b : Nat} {l : List (StepT × CostT)} (h : MapOf keyStep encC w b l) (p y c1 c2 : Int) :
    ∃ o, (Instr.mapUpdate 214 (.map (some b)) (.agg #[.int .i64 p, .int .i64 y]) (.agg #[.int .i64 c1, .int .i64 c2])).run Try.prog w = .ok () (putMap w b o) ∧ MapOf keyStep encC (putMap w b o) b (up l ⟨p, y⟩ (c1, c2)) :=
  h.update (t := 214) (e := 217) Try.underlying214 ⟨p, y⟩ ((c1, c2) : CostT)
section
variable {n : NetT} {known opn : List (StepT × CostT)} {c : CostT} {t : StepT}
theorem relaxD_known {ck : CostT} (h : lk known t = some ck) : relaxD n known c opn t = opn := by unfold relaxD; rw [h]; simp
theorem relaxD_new (h : lk known t = none) (ho : lk opn t = none) : relaxD n known c opn t = up opn t (c.1 + lenS n t, c.2 + 1) := by unfold relaxD; rw [h, ho]; simp
theorem relaxD_less {o : CostT} (h : lk known t = none) (ho : lk opn t = some o) (hl : ltC (c.1 + lenS n t, c.2 + 1) o = true) : relaxD n known c opn t = up opn t (c.1 + lenS n t, c.2 + 1) := by unfold relaxD; rw [h, ho]; simp [hl]
theorem relaxD_keep {o : CostT} (h : lk known t = none) (ho : lk opn t = some o) (hl : ltC (c.1 + lenS n t, c.2 + 1) o = false) : relaxD n known c opn t = opn := by unfold relaxD; rw [h, ho]; simp [hl]
end
end Go.Proofs.Ytckcffjnffcjcaa
