/- Contract of the program's Reach. No conditions. -/
import Derived.Test.YtckcffjnffcjcaaRchH
import Derived.Test.YtckcffjnffcjcaaRchS
import Derived.Test.YtckcffjnffcjcaaOver2
import Derived.Test.YtckcffjnffcjcaaSpot1
set_option linter.unusedVariables false
set_option linter.unusedSimpArgs false
namespace Go.Proofs.Ytckcffjnffcjcaa
open Go.RowKit Go.Proofs.YtckcffjnffcjcaaW.PrintWords
/-- What is known amid the rounds: all is told, or there is more to do. -/
def LW (n : NetT) (s : SpotT) (F : Int) (ov : Nat) (out : List SpotT) (line : List ItemT) : Prop :=
  (line = [] ∧ reachV n s F = sortS out ∧ out.Nodup ∧ out.length ≤ 200) ∨ (RG n s F (1001 - ov) out line ∧ ¬ F ≤ roomS n s)
theorem LW.near {n : NetT} {s : SpotT} {F : Int} (hb : reachB n s F = true) (hr : F ≤ roomS n s) : LW n s F 0 [moveS s F] [] := by
  refine .inl ⟨rfl, ?_, by simp, by simp⟩
  rw [reachV_near hb hr]
  unfold sortS
  simp
theorem LW.far {n : NetT} {s : SpotT} {F : Int} (hs : spotB n s = true) (hr : ¬ F ≤ roomS n s) : LW n s F 0 [] [(s, 0)] := .inr ⟨RG.start hs hr, hr⟩
theorem LW.out {n : NetT} {s : SpotT} {F : Int} {ov : Nat} {out : List SpotT} {line : List ItemT} (h : LW n s F ov out line) (hb : reachB n s F = true) (hl : line = []) : reachV n s F = sortS out ∧ out.Nodup ∧ out.length ≤ 200 := by
  rcases h with h | ⟨h, hr⟩
  · exact h.2
  · rw [hl] at h
    exact ⟨by rw [reachV_go hb hr]; exact h.out, h.nd, h.ol.1⟩
theorem LW.more {n : NetT} {s : SpotT} {F : Int} {ov : Nat} {out : List SpotT} {line : List ItemT} (h : LW n s F ov out line) (hl : line ≠ []) : RG n s F (1001 - ov) out line ∧ ¬ F ≤ roomS n s := by
  rcases h with h | h
  · exact absurd h.1 hl
  · exact h
theorem keys_true {α : Type} (l : List α) : (l.map (fun x => (x, true))).map (fun p => p.1) = l := by
  induction l with
  | nil => rfl
  | cons a l ih => rw [List.map_cons, List.map_cons, ih]
set_option maxRecDepth 100000 in
set_option maxHeartbeats 16000000 in
theorem implReach_any (n : NetT) (u : (Option Addr × Nat) × (Option Addr × Nat)) (s : SpotT) (F : Int) (w : World) (hr : RdNet 67 w u n) (hf : NetFits n) :
    Calls Try.prog 100 #[.agg #[.slice u.1.1 n.pieces.length u.1.2, .slice u.2.1 n.joints.length u.2.2], .agg #[.int .i64 s.piece, .int .i64 s.at_, .int .i64 s.way], .int .i64 F] w
      fun e w' => ∃ v, e = .returned v ∧ Kd.R kSpot 38 w' w.heap.size (fun _ => True) v (reachV n s F) ∧ Below w.heap.size w w' := by
  have hmm := @run_makeMap Try.prog
  have HR := Aside0.mk hr
  have HF := Aside0.mk hf
  clear hr hf
  obtain ⟨⟨A0, c0⟩, ⟨A1, c1⟩⟩ := u
  obtain ⟨ap, aa, aw⟩ := s
  obtain ⟨W0, hW0, hN, hS, fb0, hz0⟩ := box2 w [.slice A0 n.pieces.length c0, .slice A1 n.joints.length c1] [.int .i64 ap, .int .i64 aa, .int .i64 aw] 35 38
  have n0 := hN.c 0 _ rfl; have n1 := hN.c 1 _ rfl
  have s0 := hS.c 0 _ rfl; have s1 := hS.c 1 _ rfl; have s2 := hS.c 2 _ rfl
  have fb := Aside0.mk fb0
  have HN := Aside0.mk hN
  have HS := Aside0.mk hS
  have HW := Aside0.mk hW0
  have HZ := Aside0.mk hz0
  clear hW0 hN hS fb0 hz0
  obtain ⟨gd, hgd⟩ : ∃ b, b = netGood n := ⟨_, rfl⟩
  obtain ⟨ok, hok⟩ : ∃ b, b = spotB n ⟨ap, aa, aw⟩ := ⟨_, rfl⟩
  have HGD := Aside0.mk hgd.symm
  have HOK := Aside0.mk hok.symm
  clear hgd hok
  go_enter Try.func100, Try.ntmps100
  go_wp2_with fail
  rw [← HW.out]
  go_wp2_with fail
  (with_reducible refine Calls.mono (good_any n ((A0, c0), (A1, c1)) _ (HR.out.below fb.out) HF.out) ?_)
  rintro e w1 ⟨rfl, b1⟩
  rw [HGD.out]
  have N1 := Aside0.mk (HN.out.below b1)
  have S1 := Aside0.mk (HS.out.below b1)
  have B1 := Aside0.mk (below_more fb.out b1)
  clear n0 n1 s0 s1 s2 b1
  cases gd with
  | false =>
    have HV := Aside0.mk (reachV_bad (n := n) (s := ⟨ap, aa, aw⟩) (F := F) (by unfold reachB spotOkB; rw [HGD.out]; rfl))
    go_wp2_with fail
    go_ret
    exact ⟨_, rfl, by rw [HV.out]; exact Kd.R_nil .., B1.out⟩
  | true =>
    have n0 := N1.out.c 0 _ rfl; have n1 := N1.out.c 1 _ rfl
    have s0 := S1.out.c 0 _ rfl; have s1 := S1.out.c 1 _ rfl; have s2 := S1.out.c 2 _ rfl
    go_wp2_with fail
    (with_reducible refine Calls.mono (spotOk_any n ((A0, c0), (A1, c1)) ⟨ap, aa, aw⟩ _ (HR.out.below B1.out)) ?_)
    rintro e w2 ⟨rfl, b2⟩
    rw [HOK.out]
    have N2 := Aside0.mk (N1.out.below b2)
    have S2 := Aside0.mk (S1.out.below b2)
    have B2 := Aside0.mk (below_more B1.out b2)
    clear n0 n1 s0 s1 s2 b2
    cases ok with
    | false =>
      have HV := Aside0.mk (reachV_bad (n := n) (s := ⟨ap, aa, aw⟩) (F := F) (by unfold reachB spotOkB; rw [HGD.out, HOK.out]; rfl))
      go_wp2_with fail
      go_ret
      exact ⟨_, rfl, by rw [HV.out]; exact Kd.R_nil .., B2.out⟩
    | true =>
      by_cases hF0 : F < 0
      · have HV := Aside0.mk (reachV_bad (n := n) (s := ⟨ap, aa, aw⟩) (F := F) (by unfold reachB; rw [inB_false.2 (by omega)]; simp))
        go_wp2_with fail
        go_ret
        exact ⟨_, rfl, by rw [HV.out]; exact Kd.R_nil .., B2.out⟩
      · by_cases hF1 : (1000000 : Int) < F
        · have HV := Aside0.mk (reachV_bad (n := n) (s := ⟨ap, aa, aw⟩) (F := F) (by unfold reachB; rw [inB_false.2 (by omega)]; simp))
          go_wp2_with fail
          go_ret
          exact ⟨_, rfl, by rw [HV.out]; exact Kd.R_nil .., B2.out⟩
        · have hB : reachB n ⟨ap, aa, aw⟩ F = true := by unfold reachB spotOkB; rw [HGD.out, HOK.out, inB_true.2 (by omega)]; rfl
          have HB := Aside0.mk hB
          have HG := Aside0.mk (Good.of HGD.out)
          have HFB := Aside0.mk (show 0 ≤ F ∧ F ≤ 1000000 by omega)
          clear hB
          obtain ⟨W4, hW4⟩ : ∃ W4, W4 = (((w2.alloc (.map #[] 0)).alloc (.cells #[.map (some w2.heap.size)] 189)).alloc (.map #[] 0)).alloc (.cells #[.map (some (w2.heap.size + 1 + 1))] 190) := ⟨_, rfl⟩
          have B4 : Aside0 (Below w2.heap.size w2 W4) := ⟨by rw [hW4]; exact below_alloc (below_alloc (below_alloc (below_alloc (Below.refl _ _) _) _) _) _⟩
          have M4 : Aside0 (RM W4 (w2.heap.size + 1) (w2.heap.size + 1 + 1 + 1) w2.heap.size (w2.heap.size + 1 + 1) [] []) := ⟨by
            rw [hW4]
            refine ⟨?_, ?_, ?_, ?_, by omega⟩
            · have := Bx.new (w2.alloc (.map #[] 0)) [.map (some w2.heap.size)] 189
              rw [show (w2.alloc (.map #[] 0)).heap.size = w2.heap.size + 1 by simp] at this
              exact (this.alloc _).alloc _
            · have := Bx.new (((w2.alloc (.map #[] 0)).alloc (.cells #[.map (some w2.heap.size)] 189)).alloc (.map #[] 0)) [.map (some (w2.heap.size + 1 + 1))] 190
              rw [show (((w2.alloc (.map #[] 0)).alloc (.cells #[.map (some w2.heap.size)] 189)).alloc (.map #[] 0)).heap.size = w2.heap.size + 1 + 1 + 1 by simp] at this
              exact this
            · exact (((MapOf.made keySpot Value.bool w2).alloc _).alloc _).alloc _
            · have := MapOf.made keyGo Value.bool ((w2.alloc (.map #[] 0)).alloc (.cells #[.map (some w2.heap.size)] 189))
              rw [show ((w2.alloc (.map #[] 0)).alloc (.cells #[.map (some w2.heap.size)] 189)).heap.size = w2.heap.size + 1 + 1 by simp] at this
              exact this.alloc _⟩
          have N4 := Aside0.mk (N2.out.below B4.out)
          have S4 := Aside0.mk (S2.out.below B4.out)
          have HW4 := Aside0.mk hW4
          clear hW4
          go_upto_region 5 with (fail)
          rw [← HW4.out]
          have s0 := S4.out.c 0 _ rfl; have s1 := S4.out.c 1 _ rfl; have s2 := S4.out.c 2 _ rfl
          go_wp2_with fail
          (with_reducible refine Calls.mono (look_left n ((A0, c0), (A1, c1)) (⟨ap, aa, aw⟩, 0) F F (by simp) w.heap.size (w2.heap.size + 1) (w2.heap.size + 1 + 1 + 1) w2.heap.size (w2.heap.size + 1 + 1) [] [] _ (HR.out.below (below_more B2.out B4.out)) HG.out HOK.out HFB.out N4.out M4.out) ?_)
          rintro e w5 ⟨rfl, m5, k5⟩
          have HZ2 := Aside0.mk (show w.heap.size + 2 ≤ w2.heap.size by have h1 := S2.out.lt; omega)
          have N5 := Aside0.mk (k5.bx N4.out (by have := HZ2.out; omega) (by have := HZ2.out; omega))
          have B5 := Aside0.mk (k5.below (below_more B2.out B4.out) (show w.heap.size ≤ w2.heap.size by have := HZ2.out; omega) (show w.heap.size ≤ w2.heap.size + 1 + 1 by have := HZ2.out; omega) (by have h1 := HZ2.out; have h2 := B4.out.size; omega))
          have M5 : Aside0 (∃ out line, RM w5 (w2.heap.size + 1) (w2.heap.size + 1 + 1 + 1) w2.heap.size (w2.heap.size + 1 + 1) out (line.map (goR n F)) ∧ LW n ⟨ap, aa, aw⟩ F 0 out line) := ⟨by
            by_cases hle : F ≤ roomS n ⟨ap, aa, aw⟩
            · refine ⟨_, [], ?_, LW.near HB.out hle⟩
              have e : lookG n F ([], []) ((⟨ap, aa, aw⟩, 0) : ItemT) = ([moveS ⟨ap, aa, aw⟩ F], []) := by
                unfold lookG
                rw [if_pos (by unfold toldR; simpa using hle)]
                simp [addR, endR]
              rw [e] at m5
              exact m5
            · refine ⟨[], _, ?_, LW.far HOK.out hle⟩
              have e : lookG n F ([], []) ((⟨ap, aa, aw⟩, 0) : ItemT) = ([], [((⟨ap, aa, aw⟩, 0) : ItemT)].map (goR n F)) := by
                unfold lookG
                rw [if_neg (by unfold toldR; simpa using hle)]
                simp [addR]
              rw [e] at m5
              exact m5⟩
          clear s0 s1 s2 m5 k5
          go_wp2_with fail
          go_loopw [10] (fun v10 wr => ∃ (r mo : Nat) (out : List SpotT) (line : List ItemT), v10 = .int .i64 (r : Int) ∧ 1 ≤ r ∧ r ≤ 1001 ∧ Aside0 (Bx wr w.heap.size [.slice A0 n.pieces.length c0, .slice A1 n.joints.length c1]) ∧ Aside0 (RM wr (w2.heap.size + 1) (w2.heap.size + 1 + 1 + 1) w2.heap.size mo out (line.map (goR n F))) ∧ Aside0 (LW n ⟨ap, aa, aw⟩ F (r - 1) out line) ∧ Aside0 (Below w.heap.size w wr) ∧ Aside0 (w2.heap.size < mo)) (fun v10 _ => 1002 - (intOf v10).toNat)
          case atStart =>
            obtain ⟨out, line, h1, h2⟩ := M5.out
            exact ⟨1, _, out, line, rfl, by omega, by omega, N5, ⟨h1⟩, ⟨h2⟩, B5, ⟨by omega⟩⟩
          case round =>
            obtain ⟨r, mo, out, line, rfl, hr1, hr2, NN, MM, LL, BB, HMO⟩ := hrel
            obtain ⟨WO, hWO⟩ : ∃ WO : World, WO = wr := ⟨_, rfl⟩
            subst hWO
            have o0 := MM.out.o.c 0 _ rfl
            have hlen := fun ty => MM.out.mO.len (t := 190) (e := 4) Try.underlying190 ty
            simp only [List.length_map] at hlen
            by_cases hne : line = []
            · have HX := Aside0.mk (LL.out.out HB.out hne)
              have hln : ¬ 0 < line.length := by rw [hne]; simp
              have t0 := MM.out.t.c 0 _ rfl
              obtain ⟨o, hrg, IT⟩ := MM.out.mT.range (t := 189) (e := 4) Try.underlying189
              obtain ⟨es, clock, hes, _⟩ := IT.meas
              have IT0 := Aside0.mk IT
              have HES := Aside0.mk hes
              have HNM := Aside0.mk MM.out.mT
              clear hne hr1 hr2 hes IT
              go_wp2_with fail
              go_loopw [19] (fun v19 wr => ∃ (ps rest : List SpotT) (left : List (SpotT × Bool)), Aside0 (RI out ps rest (fun x => x) left) ∧ Aside0 (Iter keySpot Value.bool wr w2.heap.size WO.heap.size (out.map (fun x => (x, true))) left) ∧ Aside0 (wr.heap[w2.heap.size]? = some (.map es clock)) ∧ Aside0 (kSpot.R 38 wr (WO.heap.size + 1) (fun _ => True) v19 ps) ∧ Aside0 (Below w.heap.size w wr) ∧ Aside0 (WO.heap.size + 1 ≤ wr.heap.size)) (fun _ wr => (leftOf es (wr.iterSeen WO.heap.size)).size)
              case atStart => exact ⟨[], out, _, ⟨by have h := RI.start (line := out) (g := fun x => x) (fun x _ y _ e => e) (by simpa using HX.out.2.1); simpa using h⟩, IT0, HES, ⟨Kd.R_nil ..⟩, ⟨below_alloc BB.out _⟩, ⟨by simp⟩⟩
              case round =>
                obtain ⟨ps, rest, left, RI4, IT4, HE4, RO4, BB4, HZ4⟩ := hrel
                have MS : Aside0 ((leftOf es (wr.iterSeen WO.heap.size)).size = left.length) := ⟨by
                  obtain ⟨es', clock', h1, h2⟩ := IT4.out.meas
                  have h3 := HE4.out
                  rw [h1] at h3
                  injection h3 with h3
                  injection h3 with h3 _
                  rw [← h3]; exact h2⟩
                rcases IT4.out.next 0 with ⟨rfl, hnx⟩ | ⟨k, v, left', w', o', hnx, hw', hmem, hlt, h1, h2, hit, hen⟩
                · have HP := Aside0.mk RI4.out.done
                  have HPL := Aside0.mk (show ps.length ≤ 1000000 by have h1 := HX.out.2.2; have h2 := HP.out.length_eq; omega)
                  go_wp2_with fail
                  (with_reducible refine Calls.mono (sortFunc_any RO4.out HPL.out) ?_)
                  rintro e w9 ⟨rfl, hr9, hb9⟩
                  have R9 := Aside0.mk hr9
                  have B9 := Aside0.mk (below_low BB4.out hb9 (show w.heap.size ≤ WO.heap.size + 1 by have := BB.out.size; omega))
                  have HV : Aside0 (reachV n ⟨ap, aa, aw⟩ F = sortS ps) := ⟨by rw [HX.out.1]; exact sortS_perm HP.out HX.out.2.1⟩
                  clear hr9 hb9
                  go_wp2_with fail
                  go_ret
                  exact ⟨_, rfl, by rw [HV.out]; exact Kd.R_lower R9.out (by have := BB.out.size; omega), B9.out⟩
                · obtain ⟨x, rest', hxl, hkx, rfl, hri⟩ := RI4.out.next hmem h1 h2
                  subst hkx
                  obtain ⟨xp, xa, xw⟩ := k
                  replace hnx : (Instr.next (.pointer (some ⟨WO.heap.size, 0, none⟩)) false 0).run Try.prog wr = .ok (.tuple #[.bool true, .agg #[.int .i64 xp, .int .i64 xa, .int .i64 xw], .bool true]) w' := hnx
                  replace hen : (Instr.entry (.pointer (some ⟨WO.heap.size, 0, none⟩))).run Try.prog w' = .ok (.tuple #[.agg #[.int .i64 xp, .int .i64 xa, .int .i64 xw], .bool true]) w' := hen
                  obtain ⟨OA, oc, eO⟩ := Kd.R_slice RO4.out
                  subst eO
                  have KS := Aside0.mk (KeepM.step hw')
                  have R5 := Aside0.mk (Kd.R_alloc (KS.out.row RO4.out (Nat.lt_succ_self _) (Nat.lt_succ_self _)) (.cells #[.int .i64 xp, .int .i64 xa, .int .i64 xw] 38))
                  have I5 := Aside0.mk (hit.below (below_alloc (Below.refl _ _) (.cells #[.int .i64 xp, .int .i64 xa, .int .i64 xw] 38)))
                  have X5 := Aside0.mk (Bx.new w' [.int .i64 xp, .int .i64 xa, .int .i64 xw] 38)
                  have B5 := Aside0.mk (below_alloc (KS.out.below BB4.out (show w.heap.size ≤ WO.heap.size from BB.out.size) (show w.heap.size ≤ WO.heap.size from BB.out.size) BB4.out.size) (.cells #[.int .i64 xp, .int .i64 xa, .int .i64 xw] 38))
                  have Z5 := Aside0.mk (show WO.heap.size + 1 ≤ (w'.alloc (.cells #[.int .i64 xp, .int .i64 xa, .int .i64 xw] 38)).heap.size by have h1 := HZ4.out; have h2 := KS.out.size; simp; omega)
                  have E5 : Aside0 ((w'.alloc (.cells #[.int .i64 xp, .int .i64 xa, .int .i64 xw] 38)).heap[w2.heap.size]? = some (.map es clock)) := ⟨((below_alloc (Below.refl _ _) _).block _ hit.map.lt).trans ((KS.out.block IT4.out.map.lt IT4.out.ne IT4.out.ne).trans HE4.out)⟩
                  have HLT := Aside0.mk hlt
                  have HRI := Aside0.mk hri
                  have HPL := Aside0.mk (show ps.length ≤ 1000 by have h1 := HX.out.2.2; have h2 := RI4.out.length; omega)
                  have x0 := X5.out.c 0 _ rfl; have x1 := X5.out.c 1 _ rfl; have x2 := X5.out.c 2 _ rfl
                  clear hw' hmem hlt h1 h2 hxl hri hit
                  go_wp2_with ((with_reducible refine gate_callP (b := .append) (xs := #[.tmp 103, .tmp 105]) rfl ?_); at_builtin; refine Kd.R_append kSpot (w0 := w'.alloc (.cells #[.int .i64 xp, .int .i64 xa, .int .i64 xw] 38)) (WO.heap.size + 1) rfl (.tmp 103) (.tmp 105) 122 38 (.agg #[.int .i64 0, .int .i64 0, .int .i64 0]) 24 rfl Try.underlying122 info38R rfl (by decide) (by omega) (.slice OA ps.length oc) ps ⟨xp, xa, xw⟩ [.int .i64 xp, .int .i64 xa, .int .i64 xw] (fun _ => True) (fun _ => False) rfl (by first | (go_simp; done) | (go_simp; rfl)) (kSpot_mkM _ _ _ ⟨xp, xa, xw⟩) (fun _ hk => hk.elim) (fun _ _ => trivial) R5.out (Below.refl _ _) Z5.out (by have := HPL.out; omega) ?_; intro v1 w9 hR9 hB9 hG9 hat9; have R9 := Aside0.mk hR9; have B9 := Aside0.mk hB9; have G9 := Aside0.mk hG9; clear hR9 hB9 hG9 hat9)
                  have I9 : Aside0 (Iter keySpot Value.bool w9 w2.heap.size WO.heap.size (out.map (fun x => (x, true))) left') := ⟨I5.out.move (B9.out.block _ (by have h1 := HNM.out.lt; omega)) (B9.out.block _ (by omega))⟩
                  have E9 : Aside0 (w9.heap[w2.heap.size]? = some (.map es clock)) := ⟨(B9.out.block _ (by have h1 := HNM.out.lt; omega)).trans E5.out⟩
                  go_roundw
                  case rel => exact ⟨ps ++ [⟨xp, xa, xw⟩], rest', left', HRI, I9, E9, R9, ⟨below_low B5.out B9.out (by have := BB.out.size; omega)⟩, ⟨Nat.le_trans Z5.out B9.out.size⟩⟩
                  case measure =>
                    have M9 : (leftOf es (w9.iterSeen WO.heap.size)).size = left'.length := by
                      obtain ⟨es', clock', h1, h2⟩ := I9.out.meas
                      have h3 := E9.out
                      rw [h1] at h3
                      injection h3 with h3
                      injection h3 with h3 _
                      rw [← h3]; exact h2
                    rw [M9, MS.out]
                    exact HLT.out
            · obtain ⟨hRG, hfar⟩ := LL.out.more hne
              have HRG := Aside0.mk hRG
              have HFAR := Aside0.mk hfar
              have HNE := Aside0.mk hne
              have hlp : 0 < line.length := List.length_pos_iff.2 hne
              obtain ⟨WA, hWA⟩ : ∃ WA, WA = (WO.setCell ⟨w2.heap.size + 1 + 1 + 1, 0, none⟩ (.map (some WO.heap.size))).alloc (.map #[] 0) := ⟨_, rfl⟩
              have hmo := MM.out.mO.lt
              have hmt := MM.out.mT.lt
              have hob := MM.out.o.lt
              have hne8 := MM.out.ne
              have hsz : (WO.setCell ⟨w2.heap.size + 1 + 1 + 1, 0, none⟩ (.map (some WO.heap.size))).heap.size = WO.heap.size := by simp [World.setCell]
              have MA : Aside0 (RM WA (w2.heap.size + 1) (w2.heap.size + 1 + 1 + 1) w2.heap.size WO.heap.size out []) := ⟨by
                rw [hWA]
                refine ⟨(MM.out.t.far (by omega) _).alloc _, (MM.out.o.set (i := 0) (by simp) _).alloc _, (MM.out.mT.setCell _ _).alloc _, ?_, by omega⟩
                have := MapOf.made keyGo Value.bool (WO.setCell ⟨w2.heap.size + 1 + 1 + 1, 0, none⟩ (.map (some WO.heap.size)))
                rw [hsz] at this
                exact this⟩
              have OA : Aside0 (MapOf keyGo Value.bool WA mo ((line.map (goR n F)).map (fun x => (x, true)))) := ⟨by rw [hWA]; exact (MM.out.mO.setCell _ _).alloc _⟩
              have NA : Aside0 (Bx WA w.heap.size [.slice A0 n.pieces.length c0, .slice A1 n.joints.length c1]) := ⟨by rw [hWA]; exact (NN.out.far (by have := HZ2.out; omega) _).alloc _⟩
              have BA : Aside0 (Below w.heap.size w WA) := ⟨by rw [hWA]; exact below_alloc (below_set BB.out (show w.heap.size ≤ w2.heap.size + 1 + 1 + 1 by have := HZ2.out; omega)) _⟩
              have hsA : WA.heap.size = WO.heap.size + 1 := by rw [hWA]; simp [World.setCell]
              obtain ⟨o, hrg, IT⟩ := OA.out.range (t := 190) (e := 4) Try.underlying190
              obtain ⟨es, clock, hes, _⟩ := IT.meas
              have HWA := Aside0.mk hWA
              have RN0 := Aside0.mk (show RN w [.slice A0 n.pieces.length c0, .slice A1 n.joints.length c1] (w2.heap.size + 1) (w2.heap.size + 1 + 1 + 1) w2.heap.size WO.heap.size mo WA.heap.size ((line.map (goR n F)).map (fun x => (x, true))) ((line.map (goR n F)).map (fun x => (x, true))) es clock (WA.alloc o) (roundR n F out []).1 ((roundR n F out []).2.map (goR n F)) from
                ⟨MA.out.below (below_alloc (Below.refl _ _) _), IT, hes, NA.out.alloc _, below_alloc BA.out _, by have := HZ2.out; have := HMO.out; omega⟩)
              have RI0 := Aside0.mk (RI.start (line := line) (g := goR n F) hRG.ent (by have h := MM.out.mO.nodup; rwa [keys_true] at h))
              have of0 := MM.out.o.f 0
              clear hRG hfar hne hWA hes IT
              go_upto_region 12 with (fail)
              rw [← HWA.out]
              have HSA := Aside0.mk hsA
              have HMT := Aside0.mk hmt
              clear hmo hmt hob hne8 hsz hsA
              go_wp2_with fail
              go_loopw [55] (fun _ wr => ∃ (ps rest : List ItemT) (left : List (ItemT × Bool)), Aside0 (RI line ps rest (goR n F) left) ∧ Aside0 (∀ y ∈ (roundR n F out ps).2, EntS n y) ∧ Aside0 (RN w [.slice A0 n.pieces.length c0, .slice A1 n.joints.length c1] (w2.heap.size + 1) (w2.heap.size + 1 + 1 + 1) w2.heap.size WO.heap.size mo WA.heap.size ((line.map (goR n F)).map (fun x => (x, true))) left es clock wr (roundR n F out ps).1 ((roundR n F out ps).2.map (goR n F)))) (fun _ wr => (leftOf es (wr.iterSeen WA.heap.size)).size)
              case atStart => exact ⟨[], line, _, RI0, ⟨fun y hy => by simp [roundR] at hy⟩, RN0⟩
              case round =>
                obtain ⟨ps, rest, left, RI2, EN2, RN2⟩ := hrel
                rcases RN2.out.it.next 0 with ⟨rfl, hnx⟩ | ⟨k, v, left', w', o', hnx, hw', hmem, hlt, h1, h2, hit, hen⟩
                · have HP := Aside0.mk RI2.out.done
                  have t0 := RN2.out.rm.t.c 0 _ rfl; have o0 := RN2.out.rm.o.c 0 _ rfl
                  have hlT := fun ty => RN2.out.rm.mT.len (t := 189) (e := 4) Try.underlying189 ty
                  have hlO := fun ty => RN2.out.rm.mO.len (t := 190) (e := 4) Try.underlying190 ty
                  simp only [List.length_map] at hlT hlO
                  obtain ⟨o1, ho1⟩ : ∃ k, k = (roundR n F out ps).1.length := ⟨_, rfl⟩
                  obtain ⟨n1, hn1⟩ : ∃ k, k = (roundR n F out ps).2.length := ⟨_, rfl⟩
                  rw [← ho1] at hlT
                  rw [← hn1] at hlO
                  have HGG : Aside0 (RG n ⟨ap, aa, aw⟩ F (1001 - r + 1) out line) := ⟨by rw [show 1001 - r + 1 = 1001 - (r - 1) by omega]; exact HRG.out⟩
                  have HO1 := Aside0.mk ho1
                  have HN1 := Aside0.mk hn1
                  clear ho1 hn1
                  by_cases h1 : 200 < o1
                  · have HV : Aside0 (reachV n ⟨ap, aa, aw⟩ F = []) := ⟨by rw [reachV_go HB.out (by have := HFAR.out; omega)]; exact HGG.out.fail HP.out HNE.out (.inl (by rw [← HO1.out]; exact h1))⟩
                    have h1' : (200 : Int) < (o1 : Int) := by omega
                    go_wp2_with fail
                    go_ret
                    exact ⟨_, rfl, by rw [HV.out]; exact Kd.R_nil .., RN2.out.b0⟩
                  · have h1' : ¬ (200 : Int) < (o1 : Int) := by omega
                    by_cases h2 : 1000 < n1
                    · have HV : Aside0 (reachV n ⟨ap, aa, aw⟩ F = []) := ⟨by rw [reachV_go HB.out (by have := HFAR.out; omega)]; exact HGG.out.fail HP.out HNE.out (.inr (.inl (by rw [← HN1.out]; exact h2)))⟩
                      have h2' : (1000 : Int) < (n1 : Int) := by omega
                      go_wp2_with fail
                      go_ret
                      exact ⟨_, rfl, by rw [HV.out]; exact Kd.R_nil .., RN2.out.b0⟩
                    · have h2' : ¬ (1000 : Int) < (n1 : Int) := by omega
                      by_cases h3 : r = 1001
                      · have HV : Aside0 (reachV n ⟨ap, aa, aw⟩ F = []) := ⟨by rw [reachV_go HB.out (by have := HFAR.out; omega)]; exact HGG.out.fail HP.out HNE.out (.inr (.inr (by omega)))⟩
                        have h3' : ((r : Int) == 1001) = true := by simp; omega
                        go_wp2_with fail
                        go_ret
                        exact ⟨_, rfl, by rw [HV.out]; exact Kd.R_nil .., RN2.out.b0⟩
                      · have h3' : ((r : Int) == 1001) = false := by simp; omega
                        have HNX := Aside0.mk (HGG.out.next HG.out HP.out HNE.out (by rw [← HO1.out, ← HN1.out]; omega))
                        go_wp2_with fail
                        go_roundw
                        case rel =>
                          exact ⟨r + 1, WO.heap.size, (roundR n F out ps).1, (roundR n F out ps).2, by go_num, by omega, by omega, ⟨RN2.out.net⟩, ⟨RN2.out.rm⟩, ⟨.inr ⟨by rw [show 1001 - (r + 1 - 1) = 1001 - r by omega]; exact HNX.out, by have := HFAR.out; omega⟩⟩, ⟨RN2.out.b0⟩, ⟨HMT.out⟩⟩
                        case measure => simp [intOf]; omega
                · obtain ⟨x, rest', hxl, hkx, rfl, hri⟩ := RI2.out.next hmem h1 h2
                  obtain ⟨hsx, hx0, hx1⟩ := HRG.out.it x hxl
                  obtain ⟨⟨xp, xa, xw⟩, xf⟩ := x
                  obtain ⟨⟨gp, ga, gw⟩, gl⟩ := k
                  have hk1 : (⟨gp, ga, gw⟩ : SpotT) = moveS ⟨xp, xa, xw⟩ (roomS n ⟨xp, xa, xw⟩) := congrArg (fun z => z.1) hkx
                  have hk2 : gl = F - xf - roomS n ⟨xp, xa, xw⟩ := congrArg (fun z => z.2) hkx
                  simp only at hsx hx0 hx1
                  have hgs : spotB n ⟨gp, ga, gw⟩ = true := by rw [hk1]; exact moveS_there hsx HG.out
                  have hgh : headE ⟨gp, ga, gw⟩ = headE ⟨xp, xa, xw⟩ := by rw [hk1]; rfl
                  replace hnx : (Instr.next (.pointer (some ⟨WA.heap.size, 0, none⟩)) false 0).run Try.prog wr = .ok (.tuple #[.bool true, .agg #[.int .i64 gp, .int .i64 ga, .int .i64 gw, .int .i64 gl], .bool true]) w' := hnx
                  replace hen : (Instr.entry (.pointer (some ⟨WA.heap.size, 0, none⟩))).run Try.prog w' = .ok (.tuple #[.agg #[.int .i64 gp, .int .i64 ga, .int .i64 gw, .int .i64 gl], .bool true]) w' := hen
                  have RN3 := Aside0.mk (RN2.out.step hw' hit)
                  have HLT := Aside0.mk hlt
                  have HMS := Aside0.mk RN2.out.meas
                  have HRI := Aside0.mk hri
                  have HSX := Aside0.mk hsx
                  have HX01 := Aside0.mk (show 0 ≤ xf ∧ xf + roomS n ⟨xp, xa, xw⟩ < F from ⟨hx0, hx1⟩)
                  have HK2 := Aside0.mk hk2
                  have hgb := spotB_iff.1 hgs
                  have hglen := HG.out.len hgb.1 hgb.2.1
                  simp only at hgb hglen
                  have HGB := Aside0.mk hgb
                  have HGL := Aside0.mk hglen
                  obtain ⟨⟨hp, hs2⟩, hh⟩ : ∃ e, e = headE ⟨gp, ga, gw⟩ := ⟨_, rfl⟩
                  have HHV : Aside0 ((Value.agg #[.int .i64 (headE ⟨gp, ga, gw⟩).piece, .int .i64 (headE ⟨gp, ga, gw⟩).side]) = (Value.agg #[.int .i64 hp, .int .i64 hs2])) := ⟨by rw [← hh]⟩
                  have HHX : Aside0 ((⟨hp, hs2⟩ : EndT) = headE ⟨xp, xa, xw⟩) := ⟨by rw [hh, hgh]⟩
                  obtain ⟨rg, hrg2⟩ : ∃ r, r = roomS n ⟨gp, ga, gw⟩ := ⟨_, rfl⟩
                  have HRGM := Aside0.mk hrg2
                  obtain ⟨W6, hW6⟩ : ∃ W6, W6 = w'.alloc (.cells #[.int .i64 gp, .int .i64 ga, .int .i64 gw, .int .i64 gl] 192) := ⟨_, rfl⟩
                  have G6 : Aside0 (Bx W6 w'.heap.size [.int .i64 gp, .int .i64 ga, .int .i64 gw, .int .i64 gl]) := ⟨by rw [hW6]; exact Bx.new w' _ 192⟩
                  have RN6 : Aside0 (RN w [.slice A0 n.pieces.length c0, .slice A1 n.joints.length c1] (w2.heap.size + 1) (w2.heap.size + 1 + 1 + 1) w2.heap.size WO.heap.size mo WA.heap.size ((line.map (goR n F)).map (fun x => (x, true))) left' es clock W6 (roundR n F out ps).1 ((roundR n F out ps).2.map (goR n F))) := ⟨by rw [hW6]; exact RN3.out.below (below_alloc (Below.refl _ _) _)⟩
                  have HGW := Aside0.mk (show WO.heap.size < w'.heap.size by have h1 := RN3.out.it.ltr; have h2 := HSA.out; omega)
                  have HW6 := Aside0.mk hW6
                  clear hmem hlt h1 h2 hxl hri hit hw' hkx hsx hx0 hx1 hk1 hk2 hgs hgh hgb hglen hh hrg2 hW6
                  have n0 := RN6.out.net.c 0 _ rfl; have n1 := RN6.out.net.c 1 _ rfl
                  have g0 := G6.out.c 0 _ rfl; have g1 := G6.out.c 1 _ rfl; have g2 := G6.out.c 2 _ rfl
                  go_upto_region 15 with (fail)
                  rw [← HW6.out]
                  go_wp2_with fail
                  (with_reducible refine Calls.mono (room_any n ((A0, c0), (A1, c1)) ⟨gp, ga, gw⟩ _ (HR.out.below RN6.out.b0) (by have := HGB.out; simp only; omega) (by have := HGB.out; simp only; omega) (by have := HGB.out; simp only; omega) (by have := HGB.out; simp only; omega) (by have := HGL.out; simp only; omega)) ?_)
                  rintro e w7 ⟨rfl, b7⟩
                  rw [← HRGM.out, HHV.out]
                  obtain ⟨W8, hW8⟩ : ∃ W8, W8 = w7.alloc (.cells #[.int .i64 hp, .int .i64 hs2] 67) := ⟨_, rfl⟩
                  have RN8 := Aside0.mk ((RN6.out.below b7).below (show Below w7.heap.size w7 W8 by rw [hW8]; exact below_alloc (Below.refl _ _) _))
                  have G8 := Aside0.mk ((G6.out.below b7).below (show Below w7.heap.size w7 W8 by rw [hW8]; exact below_alloc (Below.refl _ _) _))
                  have E8 : Aside0 (Bx W8 w7.heap.size [.int .i64 hp, .int .i64 hs2]) := ⟨by rw [hW8]; exact Bx.new w7 _ 67⟩
                  have HW8 := Aside0.mk hW8
                  clear hW8 b7 n0 n1 g0 g1 g2
                  have n0 := RN8.out.net.c 0 _ rfl; have n1 := RN8.out.net.c 1 _ rfl
                  have e0 := E8.out.c 0 _ rfl; have e1 := E8.out.c 1 _ rfl
                  go_upto_region 16 with (fail)
                  rw [← HW8.out]
                  go_wp2_with fail
                  (with_reducible refine Calls.mono (over_any n ((A0, c0), (A1, c1)) ⟨hp, hs2⟩ _ (HR.out.below RN8.out.b0) HG.out) ?_)
                  rintro e w9 ⟨v1, v2, rfl, r1, r2, b9⟩
                  obtain ⟨E, hE⟩ : ∃ E, E = acrossG n ⟨hp, hs2⟩ := ⟨_, rfl⟩
                  rw [← hE] at r1
                  have HE := Aside0.mk (show E = acrossE n (headE (⟨xp, xa, xw⟩, xf).1) by rw [hE, HHX.out]; exact acrossG_ok HG.out (headE_ok HSX.out))
                  have hE2 : E.length ≤ 2 := by rw [HE.out]; unfold acrossE; exact acrossJ_few _ _
                  obtain ⟨AE, cE, eE⟩ := Kd.R_slice r1
                  subst eE
                  have RE := Aside0.mk r1
                  have HZE := Aside0.mk (show WO.heap.size < W8.heap.size by have h1 := HGW.out; have h2 := G8.out.lt; omega)
                  have RN9 := Aside0.mk (show RN w [.slice A0 n.pieces.length c0, .slice A1 n.joints.length c1] (w2.heap.size + 1) (w2.heap.size + 1 + 1 + 1) w2.heap.size WO.heap.size mo WA.heap.size ((line.map (goR n F)).map (fun x => (x, true))) left' es clock w9 (endRS n F (roundR n F out ps) (⟨xp, xa, xw⟩, xf) 0).1 ((endRS n F (roundR n F out ps) (⟨xp, xa, xw⟩, xf) 0).2.map (goR n F)) from RN8.out.below b9)
                  have G9 := Aside0.mk (G8.out.below b9)
                  clear b9 r1 r2 hE n0 n1 e0 e1
                  go_wp2_with fail
                  go_loopw [73] (fun v73 wr => ∃ (q : Nat), v73 = .int .i64 (q : Int) ∧ q ≤ E.length ∧ Aside0 (∀ y ∈ (endRS n F (roundR n F out ps) (⟨xp, xa, xw⟩, xf) q).2, EntS n y) ∧ Aside0 (RN w [.slice A0 n.pieces.length c0, .slice A1 n.joints.length c1] (w2.heap.size + 1) (w2.heap.size + 1 + 1 + 1) w2.heap.size WO.heap.size mo WA.heap.size ((line.map (goR n F)).map (fun x => (x, true))) left' es clock wr (endRS n F (roundR n F out ps) (⟨xp, xa, xw⟩, xf) q).1 ((endRS n F (roundR n F out ps) (⟨xp, xa, xw⟩, xf) q).2.map (goR n F))) ∧ Aside0 (Bx wr w'.heap.size [.int .i64 gp, .int .i64 ga, .int .i64 gw, .int .i64 gl]) ∧ Aside0 (kEnd.R 67 wr W8.heap.size (fun _ => True) (.slice AE E.length cE) E)) (fun v73 _ => E.length - (intOf v73).toNat)
                  case atStart => exact ⟨0, rfl, Nat.zero_le _, ⟨EN2.out⟩, RN9, G9, RE⟩
                  case round =>
                    obtain ⟨q, rfl, hq, EN3, RN3', G3, RE3⟩ := hrel
                    by_cases hlt3 : q < E.length
                    · obtain ⟨WR, hWR⟩ : ∃ WR : World, WR = wr := ⟨_, rfl⟩
                      subst hWR
                      obtain ⟨st, hst⟩ : ∃ st, st = endRS n F (roundR n F out ps) (⟨xp, xa, xw⟩, xf) q := ⟨_, rfl⟩
                      have HSN := Aside0.mk (endRS_next (n := n) (F := F) (st := roundR n F out ps) (c := (⟨xp, xa, xw⟩, xf)) HE.out hlt3)
                      rw [← hst] at RN3' EN3 HSN
                      obtain ⟨adE, eE1, z0, z1⟩ := at_End (Kd.R_reads' RE3.out).2.2 q hlt3
                      subst eE1
                      have hem := getD_mem E q hlt3
                      rw [HE.out] at hem
                      have hee := (HG.out.across (headE_ok HSX.out) hem).1
                      rw [← HE.out] at hee
                      obtain ⟨⟨ep, es2⟩, he⟩ : ∃ e, e = E.getD q default := ⟨_, rfl⟩
                      rw [← he] at z0 z1 hee
                      rw [← he] at HSN
                      have HEE := Aside0.mk hee
                      have hb1 := endB_iff.1 hee
                      simp only at hb1
                      have HEB := Aside0.mk hb1
                      obtain ⟨⟨np, na, nw⟩, hen2⟩ : ∃ e, e = enterS n ⟨ep, es2⟩ := ⟨_, rfl⟩
                      have HEV : Aside0 ((Value.agg #[.int .i64 (enterS n ⟨ep, es2⟩).piece, .int .i64 (enterS n ⟨ep, es2⟩).at_, .int .i64 (enterS n ⟨ep, es2⟩).way]) = (Value.agg #[.int .i64 np, .int .i64 na, .int .i64 nw])) := ⟨by rw [← hen2]⟩
                      have HNS := Aside0.mk (show spotB n ((⟨np, na, nw⟩, xf + roomS n ⟨xp, xa, xw⟩) : ItemT).1 = true by rw [hen2]; exact enterS_ok HG.out hee)
                      have HNE2 := Aside0.mk (show EntS n (⟨np, na, nw⟩, xf + roomS n ⟨xp, xa, xw⟩) from ⟨_, hee, hen2⟩)
                      rw [← hen2] at HSN
                      have HGLE := Aside0.mk (show gl = F - ((⟨np, na, nw⟩, xf + roomS n ⟨xp, xa, xw⟩) : ItemT).2 by have := HK2.out; simp only; omega)
                      have HGLB := Aside0.mk (show 0 ≤ gl ∧ gl ≤ 1000000 by
                        have h1 := HK2.out
                        have h2 := HX01.out
                        have h3 := HFB.out
                        have h4 := (roomS_bd HG.out HSX.out).1
                        omega)
                      have HLG := Aside0.mk (lookG_look (n := n) (F := F) (out := st.1) (next := st.2) (x := (⟨np, na, nw⟩, xf + roomS n ⟨xp, xa, xw⟩)) EN3.out HNE2.out)
                      have hq0 : (0 : Int) ≤ (q : Int) := by omega
                      have hq1 : (q : Int) < (E.length : Int) := by omega
                      obtain ⟨W10, hW10⟩ : ∃ W10, W10 = WR.alloc (.cells #[.int .i64 ep, .int .i64 es2] 67) := ⟨_, rfl⟩
                      have Q10 : Below WR.heap.size WR W10 := by rw [hW10]; exact below_alloc (Below.refl _ _) _
                      have RN10 := Aside0.mk (RN3'.out.below Q10)
                      have G10 := Aside0.mk (G3.out.below Q10)
                      have RE10 := Aside0.mk (Kd.R_below RE3.out Q10)
                      have X10 : Aside0 (Bx W10 WR.heap.size [.int .i64 ep, .int .i64 es2]) := ⟨by rw [hW10]; exact Bx.new WR _ 67⟩
                      have HZR := Aside0.mk (show w'.heap.size < WR.heap.size from G3.out.lt)
                      have HW10 := Aside0.mk hW10
                      clear hst hem he hee hb1 hen2 hW10 Q10
                      go_upto_region 20 with (fail)
                      rw [← HW10.out]
                      clear z0 z1
                      have HSx : Aside0 (∀ W, Below W10.heap.size W10 W → (W.cell? ⟨w.heap.size, 0, none⟩ = some (.slice A0 n.pieces.length c0) ∧ W.cell? ⟨w.heap.size, 1, none⟩ = some (.slice A1 n.joints.length c1) ∧ W.cell? ⟨WR.heap.size, 0, none⟩ = some (.int .i64 ep) ∧ W.cell? ⟨WR.heap.size, 1, none⟩ = some (.int .i64 es2) ∧ W.cell? ⟨w'.heap.size, 3, none⟩ = some (.int .i64 gl))) := ⟨fun W hb => ⟨(RN10.out.net.below hb).c 0 _ rfl, (RN10.out.net.below hb).c 1 _ rfl, (X10.out.below hb).c 0 _ rfl, (X10.out.below hb).c 1 _ rfl, (G10.out.below hb).c 3 _ rfl⟩⟩
                      go_region_held3 (fun W => W.cell? ⟨w.heap.size, 0, none⟩ = some (.slice A0 n.pieces.length c0) ∧ W.cell? ⟨w.heap.size, 1, none⟩ = some (.slice A1 n.joints.length c1) ∧ W.cell? ⟨WR.heap.size, 0, none⟩ = some (.int .i64 ep) ∧ W.cell? ⟨WR.heap.size, 1, none⟩ = some (.int .i64 es2) ∧ W.cell? ⟨w'.heap.size, 3, none⟩ = some (.int .i64 gl))
                        (first | (with_reducible assumption) | (with_reducible exact HSx.out _ (by with_reducible assumption)) | (with_reducible exact HSx.out _ (Below.refl _ _)) | (with_reducible exact HSx.out _ (Below.drew (Below.refl _ _))))
                        (first
                          | (go_at_call 141; go_split_ands; (with_reducible refine Calls.mono (enter_any n ((A0, c0), (A1, c1)) ⟨ep, es2⟩ _ (HR.out.below (below_more RN10.out.b0 (by first | (with_reducible assumption) | (with_reducible exact Below.refl _ _) | (with_reducible exact Below.drew (Below.refl _ _))))) (by have := HEB.out; simp only; omega) (by have := HEB.out; simp only; omega)) ?_); rintro e t0 ⟨rfl, b3⟩; rw [HEV.out]; have tq0 : Below W10.heap.size W10 t0 := below_more (by first | (with_reducible assumption) | (with_reducible exact Below.refl _ _) | (with_reducible exact Below.drew (Below.refl _ _))) b3; clear b3)
                          | (go_at_call 162; go_split_ands; (with_reducible refine Calls.mono (look_left n ((A0, c0), (A1, c1)) (⟨np, na, nw⟩, xf + roomS n ⟨xp, xa, xw⟩) F gl HGLE.out w.heap.size (w2.heap.size + 1) (w2.heap.size + 1 + 1 + 1) w2.heap.size WO.heap.size st.1 (st.2.map (goR n F)) _ (HR.out.below (below_more RN10.out.b0 (by with_reducible assumption))) HG.out HNS.out HGLB.out (RN10.out.below (by with_reducible assumption)).net (RN10.out.below (by with_reducible assumption)).rm) ?_); rintro e t1 ⟨rfl, m9, k9⟩; have RN11 := Aside0.mk ((RN10.out.below (by with_reducible assumption)).look k9 m9); have G11 := Aside0.mk (k9.bx (G10.out.below (by with_reducible assumption)) (by have h1 := HGW.out; have h2 := HMT.out; omega) (by have h1 := HGW.out; omega)); have X11 := Aside0.mk (k9.bx (X10.out.below (by with_reducible assumption)) (by have h1 := HGW.out; have h2 := HMT.out; have h3 := HZR.out; omega) (by have h1 := HGW.out; have h3 := HZR.out; omega)); have RE11 := Aside0.mk (k9.row (Kd.R_below RE10.out (by with_reducible assumption)) (by have h1 := HMT.out; have h2 := HZE.out; omega) HZE.out); have HH : (t1.cell? ⟨w.heap.size, 0, none⟩ = some (.slice A0 n.pieces.length c0) ∧ t1.cell? ⟨w.heap.size, 1, none⟩ = some (.slice A1 n.joints.length c1) ∧ t1.cell? ⟨WR.heap.size, 0, none⟩ = some (.int .i64 ep) ∧ t1.cell? ⟨WR.heap.size, 1, none⟩ = some (.int .i64 es2) ∧ t1.cell? ⟨w'.heap.size, 3, none⟩ = some (.int .i64 gl)) := ⟨RN11.out.net.c 0 _ rfl, RN11.out.net.c 1 _ rfl, X11.out.c 0 _ rfl, X11.out.c 1 _ rfl, G11.out.c 3 _ rfl⟩))
                      all_goals
                        try go_wp2_with fail
                        go_roundw
                        case rel =>
                          have h1 := RN11.out
                          rw [HLG.out] at h1
                          refine ⟨q + 1, by go_num, by omega, ⟨?_⟩, ⟨?_⟩, G11, RE11⟩
                          · rw [HSN.out]; exact lookR_ent EN3.out HNE2.out
                          · rw [HSN.out]; exact h1
                        case measure => simp [intOf]; omega
                    · have hqe : q = E.length := by omega
                      have HQE := Aside0.mk hqe
                      have hge : ¬ (q : Int) < (E.length : Int) := by omega
                      clear hqe
                      have EE : Aside0 (endRS n F (roundR n F out ps) (⟨xp, xa, xw⟩, xf) q = roundR n F out (ps ++ [(⟨xp, xa, xw⟩, xf)])) := ⟨by rw [roundR_snoc]; exact endRS_all (by rw [HQE.out, nextR_len, ← HE.out])⟩
                      go_wp2_with fail
                      go_roundw
                      case rel =>
                        have h1 := EN3.out
                        have h2 := RN3'.out
                        rw [EE.out] at h1 h2
                        exact ⟨ps ++ [(⟨xp, xa, xw⟩, xf)], rest', left', HRI, ⟨h1⟩, ⟨h2⟩⟩
                      case measure =>
                        rw [RN3'.out.meas, HMS.out]
                        exact HLT.out
end Go.Proofs.Ytckcffjnffcjcaa
