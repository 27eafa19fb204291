/- Texts of this work, of each what the claim leans on: Hdr, PlMap, Over2, Pl3, ReachLaw, ReachV, ReachP, RchL, RchX, RchG, RchH, CostL. No conditions. -/
import Derived.Test.YtckcffjnffcjcaaVLp5
import Derived.Laws.IdiomRangeMap
import Derived.Outline
set_option linter.unusedVariables false
set_option linter.unusedSimpArgs false
namespace Go.Proofs.Ytckcffjnffcjcaa
open Go.RowKit Go.Proofs.YtckcffjnffcjcaaW.PrintWords
abbrev HdrT := Int × Int × Int × Int × (Option Addr × Nat × Nat)
def encH (x : Option Addr × Nat × Nat) : Value := .slice x.1 x.2.1 x.2.2
def kHdr : Kd HdrT := Kd.pair (Kd.int .i64) (Kd.pair (Kd.int .i64) (Kd.pair (Kd.int .i64) (Kd.pair (Kd.int .i64) (Kd.scalar encH (fun _ => rfl)))))
def hdrVals (x : HdrT) : List Value := [.int .i64 x.1, .int .i64 x.2.1, .int .i64 x.2.2.1, .int .i64 x.2.2.2.1, encH x.2.2.2.2]
theorem kHdr_open {w : World} {x : HdrT} {cs : List Value} (h : kHdr.K w x cs) : cs = hdrVals x := by
  obtain ⟨c0, d0, rfl, h0, c1, d1, rfl, h1, c2, d2, rfl, h2, c3, d3, rfl, h3, h4⟩ := h
  rw [show c0 = [.int .i64 x.1] from h0, show c1 = [.int .i64 x.2.1] from h1, show c2 = [.int .i64 x.2.2.1] from h2, show c3 = [.int .i64 x.2.2.2.1] from h3, show d3 = [encH x.2.2.2.2] from h4]; rfl
theorem kHdr_mkM (w : World) (base : Nat) (ok : Nat → Prop) (x : HdrT) : kHdr.M w base ok x (hdrVals x) :=
  ⟨[.int .i64 x.1], _, rfl, rfl, [.int .i64 x.2.1], _, rfl, rfl, [.int .i64 x.2.2.1], _, rfl, rfl, [.int .i64 x.2.2.2.1], [encH x.2.2.2.2], rfl, rfl, rfl⟩
theorem add_lit (g i : Nat) : (⟨g, 0, none⟩ : Addr).add i = ⟨g, i, none⟩ := by
  unfold Addr.add
  split
  · rename_i h; rw [h]
  · simp
theorem Bx.grownP {W w1 : World} {b : Nat} {row : Option Nat} {vs : List Value} (h : Bx W b vs) (hk : W.grownBy w1 row) (hne : some b ≠ row) : Bx w1 b vs := by
  have e : w1.heap[b]? = W.heap[b]? := hk.block b h.lt hne
  refine ⟨Nat.lt_of_lt_of_le h.lt hk.size, fun i v hv => ?_, fun i => ?_⟩
  · have := h.c i v hv
    unfold World.cell? at this ⊢
    simp only at this ⊢
    rw [e]; exact this
  · have := h.f i
    unfold World.frozen? at this ⊢
    simp only at this ⊢
    rw [e]; exact this
theorem gate_callP {P : Program} {ops : Array Oper} {rest : List Oper} {o : Oper} {a : Act} {Q : Exit → Act → World → Prop} {W : World} {b : Builtin} {xs : Array Operand} {ts : Array TypeId} (_ho : o.op = .call { callee := .builtin b, args := xs, argTypes := ts }) (h : wpList P ops Q (o :: rest) a W) : wpList P ops Q (o :: rest) a W := h
end Go.Proofs.Ytckcffjnffcjcaa
set_option linter.unusedVariables false
set_option linter.unusedSimpArgs false
namespace Go.Proofs.Ytckcffjnffcjcaa
open Go.RowKit Go.Proofs.YtckcffjnffcjcaaW.PrintWords
theorem cell_put {W : World} {k : Nat} {o : Obj} {a : Addr} (h : a.block ≠ k) : (putMap W k o).cell? a = W.cell? a := by
  unfold World.cell?
  rw [putMap_other W k o h]
theorem lie_get {w : World} {b : Nat} {l : List (Int × Int)} (h : MapOf keyInt (.int .i64) w b l) (k : Int) :
    (Instr.lookup 222 (.map (some b)) (.int .i64 k) true).run Try.prog w = .ok (.tuple #[.int .i64 ((lk l k).getD 0), .bool (lk l k).isSome]) w := by
  have := h.lookup (t := 222) (e := 3) Try.underlying222 (zeroInt w) k true
  refine this.trans ?_
  cases lk l k <;> rfl
theorem lie_put {w : World} {b : Nat} {l : List (Int × Int)} (h : MapOf keyInt (.int .i64) w b l) (k v : Int) :
    ∃ o, (Instr.mapUpdate 222 (.map (some b)) (.int .i64 k) (.int .i64 v)).run Try.prog w = .ok () (putMap w b o) ∧ MapOf keyInt (.int .i64) (putMap w b o) b (up l k v) :=
  h.update (t := 222) (e := 3) Try.underlying222 k v
structure PJ (WA W : World) (v : Value) (bi : Nat) (J : Int) (out : List LieT) (lm : List (Int × Int)) : Prop where
  row : Kd.R kLie 111 W (WA.heap.size + 1) (fun g => g ≠ bi) v out
  map : MapOf keyInt (.int .i64) W WA.heap.size lm
  lies : LiesOf lm out
  box : Bx W bi [.int .i64 J]
  lt : WA.heap.size < bi
  b0 : Below WA.heap.size WA W
section
variable {WA W W1 : World} {v : Value} {bi : Nat} {J : Int} {out : List LieT} {lm : List (Int × Int)}
theorem PJ.below (h : PJ WA W v bi J out lm) (hb : Below W.heap.size W W1) : PJ WA W1 v bi J out lm :=
  ⟨Kd.R_below h.row hb, h.map.below hb, h.lies, h.box.below hb, h.lt, below_more h.b0 hb⟩
theorem PJ.sz (h : PJ WA W v bi J out lm) : WA.heap.size < W.heap.size := h.map.lt
theorem PJ.start (WA : World) : PJ WA ((WA.alloc (.map #[] 0)).alloc (.cells #[.int .i64 1] 3)) (.slice none 0 0) (WA.heap.size + 1) 1 [] [] :=
  ⟨Kd.R_nil .., (MapOf.made keyInt (.int .i64) WA).alloc _, LiesOf.nil, by
    have := Bx.new (WA.alloc (.map #[] 0)) [.int .i64 1] 3
    simpa using this, Nat.lt_succ_self _, below_two _ _ _⟩
/-- The counter's new cell. -/
theorem PJ.next (h : PJ WA W v bi J out lm) (J' : Int) : PJ WA (W.alloc (.cells #[.int .i64 J'] 3)) v W.heap.size J' out lm := by
  have ha := h.below (below_alloc (Below.refl _ _) (.cells #[.int .i64 J'] 3))
  have hb := h.sz
  refine ⟨?_, ha.map, h.lies, Bx.new W [.int .i64 J'] 3, hb, ha.b0⟩
  exact Kd.R_below (Kd.R_mono (Kd.R_bound h.row) (fun g hg => by
      show g ≠ W.heap.size
      have := hg.2.2.1; omega)) (below_alloc (Below.refl _ _) (.cells #[.int .i64 J'] 3))
/-- A lie more. -/
theorem PJ.add {o : Obj} {w9 : World} {v9 : Value} {x : LieT} (h : PJ WA W v bi J out lm) (hn : lk lm x.joint = none) (hM : MapOf keyInt (.int .i64) (putMap W WA.heap.size o) WA.heap.size (up lm x.joint x.lie))
    (hR : Kd.R kLie 111 w9 (WA.heap.size + 1) (fun g => g ≠ bi) v9 (out ++ [x])) (hB : Below (WA.heap.size + 1) (putMap W WA.heap.size o) w9) (hG : (putMap W WA.heap.size o).grownBy w9 v.ownBlock) : PJ WA w9 v9 bi J (out ++ [x]) (up lm x.joint x.lie) := by
  refine ⟨hR, hM.move (hB.block _ (Nat.lt_succ_self _)), h.lies.up hn, (h.box.put (by have := h.lt; omega)).grownP hG (fun he => h.row.1 bi he.symm rfl), h.lt, ?_⟩
  have h1 : Below WA.heap.size WA (putMap W WA.heap.size o) := putMap_below h.b0 (Nat.le_refl _)
  exact h1.trans ⟨hB.os, hB.tape, hB.output, hB.size, fun i hi => hB.block i (by omega)⟩
theorem PJ.rowPut {o : Obj} (h : PJ WA W v bi J out lm) : Kd.R kLie 111 (putMap W WA.heap.size o) (WA.heap.size + 1) (fun g => g ≠ bi) v out :=
  Kd.R_mono (Kd.R_step (Kd.R_bound h.row) (fun g hg hlt => putMap_other W WA.heap.size o (by have := hg.2.1; omega))) (fun g hg => hg.1)
end
end Go.Proofs.Ytckcffjnffcjcaa
set_option linter.unusedVariables false
set_option linter.unusedSimpArgs false
namespace Go.Proofs.Ytckcffjnffcjcaa
open Go.RowKit Go.Proofs.YtckcffjnffcjcaaW.PrintWords
set_option maxRecDepth 100000 in
set_option maxHeartbeats 4000000 in
theorem over_any (n : NetT) (u : (Option Addr × Nat) × (Option Addr × Nat)) (x : EndT) (w : World) (hr : RdNet 67 w u n) (hg : Good n) :
    Calls Try.prog 136 #[.agg #[.slice u.1.1 n.pieces.length u.1.2, .slice u.2.1 n.joints.length u.2.2], .agg #[.int .i64 x.piece, .int .i64 x.side]] w
      fun e w' => ∃ v1 v2, e = .returned (.tuple #[v1, v2]) ∧ Kd.R kEnd 67 w' w.heap.size (fun _ => True) v1 (acrossG n x) ∧ Kd.R (Kd.int .i64) 3 w' w.heap.size (fun _ => True) v2 (howG n x) ∧ Below w.heap.size w w' := by
  have HR := Aside0.mk hr
  have hjm := hr.2.1.2.1
  have HJR := Aside0.mk hr.2.1
  have HGd := Aside0.mk hg
  clear hr hg
  obtain ⟨⟨A0, c0⟩, ⟨A1, c1⟩⟩ := u
  obtain ⟨W0, hW0, hN, hS, fb0, hsz⟩ := box2 w [.slice A0 n.pieces.length c0, .slice A1 n.joints.length c1] [.int .i64 x.piece, .int .i64 x.side] 35 67
  have fb := Aside0.mk fb0
  have HN := Aside0.mk hN
  have HS := Aside0.mk hS
  have HW := Aside0.mk hW0
  clear hW0 fb0 hN hS hsz
  rcases atEnd_cases n x with ⟨hat, _⟩ | ⟨i, q, hat, hi, hq, he⟩
  · have HA := Aside0.mk hat
    have HV := Aside0.mk (acrossG_none hat)
    clear hat
    go_enter Try.func136, Try.ntmps136
    go_wp2_with (go_at_call 134; rw [← HW.out]; refine (at_any n ((A0, c0), (A1, c1)) x _ (HR.out.below fb.out)).mono ?_; rintro e w3 ⟨rfl, hb3⟩; simp only [HA.out]; have B3 := Aside0.mk (below_more fb.out hb3); clear hb3)
    refine bodyPost_ret (v := .tuple #[.slice none 0 0, .slice none 0 0]) (by simp [results, Try.results136, go_sem]) rfl ⟨_, _, rfl, by rw [HV.out.1]; exact Kd.R_nil .., by rw [HV.out.2]; exact Kd.R_nil .., B3.out⟩
  · have HAI := Aside0.mk (AtIs.mk hat hi hq he)
    have HV := Aside0.mk (acrossG_at (AtIs.mk hat hi hq he))
    have hK := HGd.out.kindAt hi
    obtain ⟨hk1, hk2, hk3, _⟩ := hK
    clear hat he
    obtain ⟨ad0, A2, k0, e0, x0, x1, x2, m0, g0⟩ := at_Joint HJR.out i hi
    simp only at e0
    subst e0
    obtain ⟨j, hj⟩ : ∃ j, j = n.joints.getD i default := ⟨_, rfl⟩
    rw [← hj] at x0 x1 x2 m0 g0 hk1 hk2 hk3 hq HV
    clear hj x1 m0
    obtain ⟨jk, jn, je⟩ := j
    simp only at x0 x2 g0 hk1 hk2 hk3 hq HV
    obtain ⟨ad, rfl⟩ := C_some g0 (by omega)
    have HG := Aside0.mk g0
    have hgm := g0.2.1
    clear g0
    have iz : (0 : Int) ≤ (i : Int) := by omega
    have hij : (i : Int) < (n.joints.length : Int) := by omega
    have neg : ((i : Int) < 0) = False := by simp
    have hkc : jk = 1 ∨ jk = 2 ∨ jk = 3 ∨ jk = 4 := by omega
    rcases hkc with rfl | rfl | rfl | rfl
    · have HA2 : Aside0 (acrossG n x = [] ∧ howG n x = []) := ⟨by rw [HV.out.1, HV.out.2]; exact aJ1 rfl⟩
      clear HV
      go_enter Try.func136, Try.ntmps136
      go_wp2_with (go_at_call 134; rw [← HW.out]; refine (at_any n ((A0, c0), (some ad0, c1)) x _ (HR.out.below fb.out)).mono ?_; rintro e w3 ⟨rfl, hb3⟩; simp only [HAI.out.eq]; have B3 := Aside0.mk (below_more fb.out hb3); have b3 := B3.out; replace x0 := pw_cell_below b3 x0; replace x2 := pw_cell_below b3 x2; clear b3; have n0 := (HN.out.below hb3).c 0 _ rfl; have n1 := (HN.out.below hb3).c 1 _ rfl; clear hb3)
      refine bodyPost_ret (v := .tuple #[.slice none 0 0, .slice none 0 0]) (by simp [results, Try.results136, go_sem]) rfl ⟨_, _, rfl, by rw [HA2.out.1]; exact Kd.R_nil .., by rw [HA2.out.2]; exact Kd.R_nil .., B3.out⟩
    · have hl : je.length = 2 := by omega
      rw [hl] at HG x2 hgm
      have hqc : q = 0 ∨ q = 1 := by omega
      clear hk1 hk2 hk3 hq
      rcases hqc with rfl | rfl
      ·
        have HA := Aside0.mk (aJ2 (j := ⟨2, jn, je⟩) (q := 0) rfl)
        obtain ⟨y0, y1⟩ := end1 HG.out (ad := ad) rfl (by omega)
        obtain ⟨p, hp⟩ : ∃ p, p = je.getD 1 default := ⟨_, rfl⟩
        rw [← hp] at y0 y1
        have HA2 : Aside0 (acrossG n x = [p] ∧ howG n x = [0]) := ⟨by rw [HV.out.1, HV.out.2, HA.out.1, HA.out.2]; rw [hp]; exact ⟨rfl, rfl⟩⟩
        clear hp HA HV
        go_enter Try.func136, Try.ntmps136
        go_wp2_with (go_at_call 134; rw [← HW.out]; refine (at_any n ((A0, c0), (some ad0, c1)) x _ (HR.out.below fb.out)).mono ?_; rintro e w3 ⟨rfl, hb3⟩; simp only [HAI.out.eq]; have B3 := Aside0.mk (below_more fb.out hb3); have b3 := B3.out; replace x0 := pw_cell_below b3 x0; replace x2 := pw_cell_below b3 x2; replace y0 := pw_cell_below b3 y0; replace y1 := pw_cell_below b3 y1; clear b3; have n0 := (HN.out.below hb3).c 0 _ rfl; have n1 := (HN.out.below hb3).c 1 _ rfl; clear hb3)
        all_goals
          refine bodyPost_ret (v := .tuple #[.slice (some ⟨_, 0, none⟩) 1 1, .slice (some ⟨_, 0, none⟩) 1 1]) (by simp [results, Try.results136, go_sem]; exact ⟨rfl, rfl⟩) rfl ⟨_, _, rfl, ?_, ?_, ?_⟩
          · rw [HA2.out.1]
            first
              | exact Kd.R_alloc (R_end1 _ p rfl (by have := B3.out.size; simp; try omega)) _
              | exact R_end1 _ p rfl (by have := B3.out.size; simp; try omega)
              | exact R_end1 _ p (by simp) (by have := B3.out.size; simp; try omega)
          · rw [HA2.out.2]
            first
              | exact R_int1 _ (0) rfl (by have := B3.out.size; simp; try omega)
              | exact R_int1 _ (0) (by simp) (by have := B3.out.size; simp; try omega)
              | exact Kd.R_alloc (R_int1 _ (0) rfl (by have := B3.out.size; simp; try omega)) _
              | exact Kd.R_alloc (R_int1 _ (0) (by simp) (by have := B3.out.size; simp; try omega)) _
          · repeat (first | (with_reducible exact Below.refl _ _) | (with_reducible exact B3.out) | (with_reducible refine below_drew ?_) | (with_reducible refine below_drewN' ?_ _) | (with_reducible refine below_alloc ?_ _))
      ·
        have HA := Aside0.mk (aJ2 (j := ⟨2, jn, je⟩) (q := 1) rfl)
        obtain ⟨y0, y1⟩ := end0 HG.out (ad := ad) rfl (by omega)
        obtain ⟨p, hp⟩ : ∃ p, p = je.getD 0 default := ⟨_, rfl⟩
        rw [← hp] at y0 y1
        have HA2 : Aside0 (acrossG n x = [p] ∧ howG n x = [0]) := ⟨by rw [HV.out.1, HV.out.2, HA.out.1, HA.out.2]; rw [hp]; exact ⟨rfl, rfl⟩⟩
        clear hp HA HV
        go_enter Try.func136, Try.ntmps136
        go_wp2_with (go_at_call 134; rw [← HW.out]; refine (at_any n ((A0, c0), (some ad0, c1)) x _ (HR.out.below fb.out)).mono ?_; rintro e w3 ⟨rfl, hb3⟩; simp only [HAI.out.eq]; have B3 := Aside0.mk (below_more fb.out hb3); have b3 := B3.out; replace x0 := pw_cell_below b3 x0; replace x2 := pw_cell_below b3 x2; replace y0 := pw_cell_below b3 y0; replace y1 := pw_cell_below b3 y1; clear b3; have n0 := (HN.out.below hb3).c 0 _ rfl; have n1 := (HN.out.below hb3).c 1 _ rfl; clear hb3)
        all_goals
          refine bodyPost_ret (v := .tuple #[.slice (some ⟨_, 0, none⟩) 1 1, .slice (some ⟨_, 0, none⟩) 1 1]) (by simp [results, Try.results136, go_sem]; exact ⟨rfl, rfl⟩) rfl ⟨_, _, rfl, ?_, ?_, ?_⟩
          · rw [HA2.out.1]
            first
              | exact Kd.R_alloc (R_end1 _ p rfl (by have := B3.out.size; simp; try omega)) _
              | exact R_end1 _ p rfl (by have := B3.out.size; simp; try omega)
              | exact R_end1 _ p (by simp) (by have := B3.out.size; simp; try omega)
          · rw [HA2.out.2]
            first
              | exact R_int1 _ (0) rfl (by have := B3.out.size; simp; try omega)
              | exact R_int1 _ (0) (by simp) (by have := B3.out.size; simp; try omega)
              | exact Kd.R_alloc (R_int1 _ (0) rfl (by have := B3.out.size; simp; try omega)) _
              | exact Kd.R_alloc (R_int1 _ (0) (by simp) (by have := B3.out.size; simp; try omega)) _
          · repeat (first | (with_reducible exact Below.refl _ _) | (with_reducible exact B3.out) | (with_reducible refine below_drew ?_) | (with_reducible refine below_drewN' ?_ _) | (with_reducible refine below_alloc ?_ _))
    · have hl : je.length = 3 := by omega
      rw [hl] at HG x2 hgm
      have hqc : q = 0 ∨ q = 1 ∨ q = 2 := by omega
      clear hk1 hk2 hk3 hq
      rcases hqc with rfl | rfl | rfl
      ·
        have HA := Aside0.mk (aJ30 (j := ⟨3, jn, je⟩) rfl)
        obtain ⟨y0, y1⟩ := end1 HG.out (ad := ad) rfl (by omega)
        obtain ⟨z0, z1⟩ := end2 HG.out (ad := ad) rfl (by omega)
        obtain ⟨p, hp⟩ : ∃ p, p = je.getD 1 default := ⟨_, rfl⟩
        rw [← hp] at y0 y1
        obtain ⟨r, hr⟩ : ∃ p, p = je.getD 2 default := ⟨_, rfl⟩
        rw [← hr] at z0 z1
        have HA2 : Aside0 (acrossG n x = [p, r] ∧ howG n x = [1, 2]) := ⟨by rw [HV.out.1, HV.out.2, HA.out.1, HA.out.2]; rw [hp, hr]; exact ⟨rfl, rfl⟩⟩
        clear hp hr HA HV
        go_enter Try.func136, Try.ntmps136
        go_wp2_with (go_at_call 134; rw [← HW.out]; refine (at_any n ((A0, c0), (some ad0, c1)) x _ (HR.out.below fb.out)).mono ?_; rintro e w3 ⟨rfl, hb3⟩; simp only [HAI.out.eq]; have B3 := Aside0.mk (below_more fb.out hb3); have b3 := B3.out; replace x0 := pw_cell_below b3 x0; replace x2 := pw_cell_below b3 x2; replace y0 := pw_cell_below b3 y0; replace y1 := pw_cell_below b3 y1; replace z0 := pw_cell_below b3 z0; replace z1 := pw_cell_below b3 z1; have y0' := pw_cell_below (below_alloc (Below.refl _ _) (.cells #[.int .i64 1, .int .i64 2] 3)) y0; have y1' := pw_cell_below (below_alloc (Below.refl _ _) (.cells #[.int .i64 1, .int .i64 2] 3)) y1; have z0' := pw_cell_below (below_alloc (Below.refl _ _) (.cells #[.int .i64 1, .int .i64 2] 3)) z0; have z1' := pw_cell_below (below_alloc (Below.refl _ _) (.cells #[.int .i64 1, .int .i64 2] 3)) z1; clear b3; have n0 := (HN.out.below hb3).c 0 _ rfl; have n1 := (HN.out.below hb3).c 1 _ rfl; clear hb3)
        go_region
        all_goals try go_wp2
        all_goals
          refine bodyPost_ret (v := .tuple #[.slice (some ⟨_, 0, none⟩) 2 2, .slice (some ⟨_, 0, none⟩) 2 2]) (by simp [results, Try.results136, go_sem]; exact ⟨rfl, rfl⟩) rfl ⟨_, _, rfl, ?_, ?_, ?_⟩
          · rw [HA2.out.1]
            first
              | exact Kd.R_alloc (R_end2 _ p r rfl (by have := B3.out.size; simp; try omega)) _
              | exact R_end2 _ p r rfl (by have := B3.out.size; simp; try omega)
              | exact R_end2 _ p r (by simp) (by have := B3.out.size; simp; try omega)
          · rw [HA2.out.2]
            first
              | exact R_int2 _ (1) (2) rfl (by have := B3.out.size; simp; try omega)
              | exact R_int2 _ (1) (2) (by simp) (by have := B3.out.size; simp; try omega)
              | exact Kd.R_alloc (R_int2 _ (1) (2) rfl (by have := B3.out.size; simp; try omega)) _
              | exact Kd.R_alloc (R_int2 _ (1) (2) (by simp) (by have := B3.out.size; simp; try omega)) _
          · repeat (first | (with_reducible exact Below.refl _ _) | (with_reducible exact B3.out) | (with_reducible refine below_drew ?_) | (with_reducible refine below_drewN' ?_ _) | (with_reducible refine below_alloc ?_ _))
      ·
        have HA := Aside0.mk (aJ3 (j := ⟨3, jn, je⟩) (q := 1) rfl (by omega))
        obtain ⟨y0, y1⟩ := end0 HG.out (ad := ad) rfl (by omega)
        obtain ⟨p, hp⟩ : ∃ p, p = je.getD 0 default := ⟨_, rfl⟩
        rw [← hp] at y0 y1
        have HA2 : Aside0 (acrossG n x = [p] ∧ howG n x = [1]) := ⟨by rw [HV.out.1, HV.out.2, HA.out.1, HA.out.2]; rw [hp]; exact ⟨rfl, rfl⟩⟩
        clear hp HA HV
        go_enter Try.func136, Try.ntmps136
        go_wp2_with (go_at_call 134; rw [← HW.out]; refine (at_any n ((A0, c0), (some ad0, c1)) x _ (HR.out.below fb.out)).mono ?_; rintro e w3 ⟨rfl, hb3⟩; simp only [HAI.out.eq]; have B3 := Aside0.mk (below_more fb.out hb3); have b3 := B3.out; replace x0 := pw_cell_below b3 x0; replace x2 := pw_cell_below b3 x2; replace y0 := pw_cell_below b3 y0; replace y1 := pw_cell_below b3 y1; clear b3; have n0 := (HN.out.below hb3).c 0 _ rfl; have n1 := (HN.out.below hb3).c 1 _ rfl; clear hb3)
        all_goals
          refine bodyPost_ret (v := .tuple #[.slice (some ⟨_, 0, none⟩) 1 1, .slice (some ⟨_, 0, none⟩) 1 1]) (by simp [results, Try.results136, go_sem]; exact ⟨rfl, rfl⟩) rfl ⟨_, _, rfl, ?_, ?_, ?_⟩
          · rw [HA2.out.1]
            first
              | exact Kd.R_alloc (R_end1 _ p rfl (by have := B3.out.size; simp; try omega)) _
              | exact R_end1 _ p rfl (by have := B3.out.size; simp; try omega)
              | exact R_end1 _ p (by simp) (by have := B3.out.size; simp; try omega)
          · rw [HA2.out.2]
            first
              | exact R_int1 _ (1) rfl (by have := B3.out.size; simp; try omega)
              | exact R_int1 _ (1) (by simp) (by have := B3.out.size; simp; try omega)
              | exact Kd.R_alloc (R_int1 _ (1) rfl (by have := B3.out.size; simp; try omega)) _
              | exact Kd.R_alloc (R_int1 _ (1) (by simp) (by have := B3.out.size; simp; try omega)) _
          · repeat (first | (with_reducible exact Below.refl _ _) | (with_reducible exact B3.out) | (with_reducible refine below_drew ?_) | (with_reducible refine below_drewN' ?_ _) | (with_reducible refine below_alloc ?_ _))
      ·
        have HA := Aside0.mk (aJ3 (j := ⟨3, jn, je⟩) (q := 2) rfl (by omega))
        obtain ⟨y0, y1⟩ := end0 HG.out (ad := ad) rfl (by omega)
        obtain ⟨p, hp⟩ : ∃ p, p = je.getD 0 default := ⟨_, rfl⟩
        rw [← hp] at y0 y1
        have HA2 : Aside0 (acrossG n x = [p] ∧ howG n x = [2]) := ⟨by rw [HV.out.1, HV.out.2, HA.out.1, HA.out.2]; rw [hp]; exact ⟨rfl, rfl⟩⟩
        clear hp HA HV
        go_enter Try.func136, Try.ntmps136
        go_wp2_with (go_at_call 134; rw [← HW.out]; refine (at_any n ((A0, c0), (some ad0, c1)) x _ (HR.out.below fb.out)).mono ?_; rintro e w3 ⟨rfl, hb3⟩; simp only [HAI.out.eq]; have B3 := Aside0.mk (below_more fb.out hb3); have b3 := B3.out; replace x0 := pw_cell_below b3 x0; replace x2 := pw_cell_below b3 x2; replace y0 := pw_cell_below b3 y0; replace y1 := pw_cell_below b3 y1; clear b3; have n0 := (HN.out.below hb3).c 0 _ rfl; have n1 := (HN.out.below hb3).c 1 _ rfl; clear hb3)
        all_goals
          refine bodyPost_ret (v := .tuple #[.slice (some ⟨_, 0, none⟩) 1 1, .slice (some ⟨_, 0, none⟩) 1 1]) (by simp [results, Try.results136, go_sem]; exact ⟨rfl, rfl⟩) rfl ⟨_, _, rfl, ?_, ?_, ?_⟩
          · rw [HA2.out.1]
            first
              | exact Kd.R_alloc (R_end1 _ p rfl (by have := B3.out.size; simp; try omega)) _
              | exact R_end1 _ p rfl (by have := B3.out.size; simp; try omega)
              | exact R_end1 _ p (by simp) (by have := B3.out.size; simp; try omega)
          · rw [HA2.out.2]
            first
              | exact R_int1 _ (2) rfl (by have := B3.out.size; simp; try omega)
              | exact R_int1 _ (2) (by simp) (by have := B3.out.size; simp; try omega)
              | exact Kd.R_alloc (R_int1 _ (2) rfl (by have := B3.out.size; simp; try omega)) _
              | exact Kd.R_alloc (R_int1 _ (2) (by simp) (by have := B3.out.size; simp; try omega)) _
          · repeat (first | (with_reducible exact Below.refl _ _) | (with_reducible exact B3.out) | (with_reducible refine below_drew ?_) | (with_reducible refine below_drewN' ?_ _) | (with_reducible refine below_alloc ?_ _))
    · have hl : je.length = 4 := by omega
      rw [hl] at HG x2 hgm
      have hqc : q = 0 ∨ q = 1 ∨ q = 2 ∨ q = 3 := by omega
      clear hk1 hk2 hk3 hq
      rcases hqc with rfl | rfl | rfl | rfl
      ·
        have HA := Aside0.mk (aJ4 (j := ⟨4, jn, je⟩) (q := 0) rfl)
        obtain ⟨y0, y1⟩ := end1 HG.out (ad := ad) rfl (by omega)
        obtain ⟨p, hp⟩ : ∃ p, p = je.getD 1 default := ⟨_, rfl⟩
        rw [← hp] at y0 y1
        have HA2 : Aside0 (acrossG n x = [p] ∧ howG n x = [0]) := ⟨by rw [HV.out.1, HV.out.2, HA.out.1, HA.out.2]; rw [hp]; exact ⟨rfl, rfl⟩⟩
        clear hp HA HV
        have hbit : bits .xor .i64 (0 : Int) 1 = 1 := by kernel_rfl
        go_enter Try.func136, Try.ntmps136
        go_wp2_with (go_at_call 134; rw [← HW.out]; refine (at_any n ((A0, c0), (some ad0, c1)) x _ (HR.out.below fb.out)).mono ?_; rintro e w3 ⟨rfl, hb3⟩; simp only [HAI.out.eq]; have B3 := Aside0.mk (below_more fb.out hb3); have b3 := B3.out; replace x0 := pw_cell_below b3 x0; replace x2 := pw_cell_below b3 x2; replace y0 := pw_cell_below b3 y0; replace y1 := pw_cell_below b3 y1; clear b3; have n0 := (HN.out.below hb3).c 0 _ rfl; have n1 := (HN.out.below hb3).c 1 _ rfl; clear hb3)
        all_goals
          refine bodyPost_ret (v := .tuple #[.slice (some ⟨_, 0, none⟩) 1 1, .slice (some ⟨_, 0, none⟩) 1 1]) (by simp [results, Try.results136, go_sem]; exact ⟨rfl, rfl⟩) rfl ⟨_, _, rfl, ?_, ?_, ?_⟩
          · rw [HA2.out.1]
            first
              | exact Kd.R_alloc (R_end1 _ p rfl (by have := B3.out.size; simp; try omega)) _
              | exact R_end1 _ p rfl (by have := B3.out.size; simp; try omega)
              | exact R_end1 _ p (by simp) (by have := B3.out.size; simp; try omega)
          · rw [HA2.out.2]
            first
              | exact R_int1 _ (0) rfl (by have := B3.out.size; simp; try omega)
              | exact R_int1 _ (0) (by simp) (by have := B3.out.size; simp; try omega)
              | exact Kd.R_alloc (R_int1 _ (0) rfl (by have := B3.out.size; simp; try omega)) _
              | exact Kd.R_alloc (R_int1 _ (0) (by simp) (by have := B3.out.size; simp; try omega)) _
          · repeat (first | (with_reducible exact Below.refl _ _) | (with_reducible exact B3.out) | (with_reducible refine below_drew ?_) | (with_reducible refine below_drewN' ?_ _) | (with_reducible refine below_alloc ?_ _))
      ·
        have HA := Aside0.mk (aJ4 (j := ⟨4, jn, je⟩) (q := 1) rfl)
        obtain ⟨y0, y1⟩ := end0 HG.out (ad := ad) rfl (by omega)
        obtain ⟨p, hp⟩ : ∃ p, p = je.getD 0 default := ⟨_, rfl⟩
        rw [← hp] at y0 y1
        have HA2 : Aside0 (acrossG n x = [p] ∧ howG n x = [0]) := ⟨by rw [HV.out.1, HV.out.2, HA.out.1, HA.out.2]; rw [hp]; exact ⟨rfl, rfl⟩⟩
        clear hp HA HV
        have hbit : bits .xor .i64 (1 : Int) 1 = 0 := by kernel_rfl
        go_enter Try.func136, Try.ntmps136
        go_wp2_with (go_at_call 134; rw [← HW.out]; refine (at_any n ((A0, c0), (some ad0, c1)) x _ (HR.out.below fb.out)).mono ?_; rintro e w3 ⟨rfl, hb3⟩; simp only [HAI.out.eq]; have B3 := Aside0.mk (below_more fb.out hb3); have b3 := B3.out; replace x0 := pw_cell_below b3 x0; replace x2 := pw_cell_below b3 x2; replace y0 := pw_cell_below b3 y0; replace y1 := pw_cell_below b3 y1; clear b3; have n0 := (HN.out.below hb3).c 0 _ rfl; have n1 := (HN.out.below hb3).c 1 _ rfl; clear hb3)
        all_goals
          refine bodyPost_ret (v := .tuple #[.slice (some ⟨_, 0, none⟩) 1 1, .slice (some ⟨_, 0, none⟩) 1 1]) (by simp [results, Try.results136, go_sem]; exact ⟨rfl, rfl⟩) rfl ⟨_, _, rfl, ?_, ?_, ?_⟩
          · rw [HA2.out.1]
            first
              | exact Kd.R_alloc (R_end1 _ p rfl (by have := B3.out.size; simp; try omega)) _
              | exact R_end1 _ p rfl (by have := B3.out.size; simp; try omega)
              | exact R_end1 _ p (by simp) (by have := B3.out.size; simp; try omega)
          · rw [HA2.out.2]
            first
              | exact R_int1 _ (0) rfl (by have := B3.out.size; simp; try omega)
              | exact R_int1 _ (0) (by simp) (by have := B3.out.size; simp; try omega)
              | exact Kd.R_alloc (R_int1 _ (0) rfl (by have := B3.out.size; simp; try omega)) _
              | exact Kd.R_alloc (R_int1 _ (0) (by simp) (by have := B3.out.size; simp; try omega)) _
          · repeat (first | (with_reducible exact Below.refl _ _) | (with_reducible exact B3.out) | (with_reducible refine below_drew ?_) | (with_reducible refine below_drewN' ?_ _) | (with_reducible refine below_alloc ?_ _))
      ·
        have HA := Aside0.mk (aJ4 (j := ⟨4, jn, je⟩) (q := 2) rfl)
        obtain ⟨y0, y1⟩ := end3 HG.out (ad := ad) rfl (by omega)
        obtain ⟨p, hp⟩ : ∃ p, p = je.getD 3 default := ⟨_, rfl⟩
        rw [← hp] at y0 y1
        have HA2 : Aside0 (acrossG n x = [p] ∧ howG n x = [0]) := ⟨by rw [HV.out.1, HV.out.2, HA.out.1, HA.out.2]; rw [hp]; exact ⟨rfl, rfl⟩⟩
        clear hp HA HV
        have hbit : bits .xor .i64 (2 : Int) 1 = 3 := by kernel_rfl
        go_enter Try.func136, Try.ntmps136
        go_wp2_with (go_at_call 134; rw [← HW.out]; refine (at_any n ((A0, c0), (some ad0, c1)) x _ (HR.out.below fb.out)).mono ?_; rintro e w3 ⟨rfl, hb3⟩; simp only [HAI.out.eq]; have B3 := Aside0.mk (below_more fb.out hb3); have b3 := B3.out; replace x0 := pw_cell_below b3 x0; replace x2 := pw_cell_below b3 x2; replace y0 := pw_cell_below b3 y0; replace y1 := pw_cell_below b3 y1; clear b3; have n0 := (HN.out.below hb3).c 0 _ rfl; have n1 := (HN.out.below hb3).c 1 _ rfl; clear hb3)
        all_goals
          refine bodyPost_ret (v := .tuple #[.slice (some ⟨_, 0, none⟩) 1 1, .slice (some ⟨_, 0, none⟩) 1 1]) (by simp [results, Try.results136, go_sem]; exact ⟨rfl, rfl⟩) rfl ⟨_, _, rfl, ?_, ?_, ?_⟩
          · rw [HA2.out.1]
            first
              | exact Kd.R_alloc (R_end1 _ p rfl (by have := B3.out.size; simp; try omega)) _
              | exact R_end1 _ p rfl (by have := B3.out.size; simp; try omega)
              | exact R_end1 _ p (by simp) (by have := B3.out.size; simp; try omega)
          · rw [HA2.out.2]
            first
              | exact R_int1 _ (0) rfl (by have := B3.out.size; simp; try omega)
              | exact R_int1 _ (0) (by simp) (by have := B3.out.size; simp; try omega)
              | exact Kd.R_alloc (R_int1 _ (0) rfl (by have := B3.out.size; simp; try omega)) _
              | exact Kd.R_alloc (R_int1 _ (0) (by simp) (by have := B3.out.size; simp; try omega)) _
          · repeat (first | (with_reducible exact Below.refl _ _) | (with_reducible exact B3.out) | (with_reducible refine below_drew ?_) | (with_reducible refine below_drewN' ?_ _) | (with_reducible refine below_alloc ?_ _))
      ·
        have HA := Aside0.mk (aJ4 (j := ⟨4, jn, je⟩) (q := 3) rfl)
        obtain ⟨y0, y1⟩ := end2 HG.out (ad := ad) rfl (by omega)
        obtain ⟨p, hp⟩ : ∃ p, p = je.getD 2 default := ⟨_, rfl⟩
        rw [← hp] at y0 y1
        have HA2 : Aside0 (acrossG n x = [p] ∧ howG n x = [0]) := ⟨by rw [HV.out.1, HV.out.2, HA.out.1, HA.out.2]; rw [hp]; exact ⟨rfl, rfl⟩⟩
        clear hp HA HV
        have hbit : bits .xor .i64 (3 : Int) 1 = 2 := by kernel_rfl
        go_enter Try.func136, Try.ntmps136
        go_wp2_with (go_at_call 134; rw [← HW.out]; refine (at_any n ((A0, c0), (some ad0, c1)) x _ (HR.out.below fb.out)).mono ?_; rintro e w3 ⟨rfl, hb3⟩; simp only [HAI.out.eq]; have B3 := Aside0.mk (below_more fb.out hb3); have b3 := B3.out; replace x0 := pw_cell_below b3 x0; replace x2 := pw_cell_below b3 x2; replace y0 := pw_cell_below b3 y0; replace y1 := pw_cell_below b3 y1; clear b3; have n0 := (HN.out.below hb3).c 0 _ rfl; have n1 := (HN.out.below hb3).c 1 _ rfl; clear hb3)
        all_goals
          refine bodyPost_ret (v := .tuple #[.slice (some ⟨_, 0, none⟩) 1 1, .slice (some ⟨_, 0, none⟩) 1 1]) (by simp [results, Try.results136, go_sem]; exact ⟨rfl, rfl⟩) rfl ⟨_, _, rfl, ?_, ?_, ?_⟩
          · rw [HA2.out.1]
            first
              | exact Kd.R_alloc (R_end1 _ p rfl (by have := B3.out.size; simp; try omega)) _
              | exact R_end1 _ p rfl (by have := B3.out.size; simp; try omega)
              | exact R_end1 _ p (by simp) (by have := B3.out.size; simp; try omega)
          · rw [HA2.out.2]
            first
              | exact R_int1 _ (0) rfl (by have := B3.out.size; simp; try omega)
              | exact R_int1 _ (0) (by simp) (by have := B3.out.size; simp; try omega)
              | exact Kd.R_alloc (R_int1 _ (0) rfl (by have := B3.out.size; simp; try omega)) _
              | exact Kd.R_alloc (R_int1 _ (0) (by simp) (by have := B3.out.size; simp; try omega)) _
          · repeat (first | (with_reducible exact Below.refl _ _) | (with_reducible exact B3.out) | (with_reducible refine below_drew ?_) | (with_reducible refine below_drewN' ?_ _) | (with_reducible refine below_alloc ?_ _))
end Go.Proofs.Ytckcffjnffcjcaa
set_option linter.unusedVariables false
set_option linter.unusedSimpArgs false
namespace Go.Proofs.Ytckcffjnffcjcaa
open Go.RowKit Go.Proofs.YtckcffjnffcjcaaW.PrintWords
def plOk (n : NetT) (l : List StepT) : Bool := stepsB n l && (liesAll n l).isSome
def plV (n : NetT) (l : List StepT) : List LieT := if stepsB n l = true then (liesAll n l).getD [] else []
theorem pl_bad {n : NetT} {l : List StepT} (h : stepsB n l = false) : plOk n l = false ∧ plV n l = [] := by
  unfold plOk plV; rw [h]; exact ⟨rfl, rfl⟩
theorem steps_long {n : NetT} {l : List StepT} (h : 400 < l.length) : stepsB n l = false := by
  unfold stepsB; rw [decide_eq_false (by omega)]; rfl
theorem steps_one {n : NetT} {l : List StepT} {i : Nat} (hi : i < l.length) (h : stepB n (l.getD i default) = false) : stepsB n l = false := by
  unfold stepsB
  have : l.all (stepB n) = false := by
    rw [List.all_eq_false]
    exact ⟨_, getD_mem l i hi, by rw [h]; simp⟩
  rw [this, Bool.and_false]
theorem steps_all' {n : NetT} {l : List StepT} (h : l.length ≤ 400) (h2 : ∀ k, k < l.length → stepB n (l.getD k default) = true) : stepsB n l = true := by
  unfold stepsB
  rw [decide_eq_true h, Bool.true_and, List.all_eq_true]
  intro x hx
  obtain ⟨k, hk, rfl⟩ := List.mem_iff_getElem.1 hx
  have := h2 k hk
  rwa [getD_at l k hk] at this
theorem across_both {n : NetT} (hg : Good n) {s : StepT} (hs : stepB n s = true) {e : EndT} (he : e = lookS s) : acrossG n e = acrossE n (lookS s) ∧ howG n e = howJ (jOf n (lookS s)) (kOf n (lookS s)) := by
  subst he
  obtain ⟨i, q, hat⟩ := hg.at_ (lookS_ok hs)
  obtain ⟨h1, h2⟩ := acrossG_at hat
  unfold acrossE
  rw [h1, h2, hat.j, hat.k]
  exact ⟨rfl, rfl⟩
theorem pl_fail {n : NetT} {l : List StepT} (h : liesAll n l = none) : plOk n l = false ∧ plV n l = [] := by
  unfold plOk plV
  rw [h]
  refine ⟨by simp, by simp⟩
theorem pl_done {n : NetT} {l : List StepT} (hs : stepsB n l = true) {out : List LieT} (h : liesAll n l = some out) : plOk n l = true ∧ plV n l = out := by
  unfold plOk plV
  rw [h, hs]
  exact ⟨rfl, rfl⟩
theorem at_both {n : NetT} (hg : Good n) {s : StepT} (hs : stepB n s = true) {e : EndT} (he : e = lookS s) : atEnd n e = ((iOf n (lookS s) : Int), (atEnd n e).2) := by
  subst he
  obtain ⟨i, q, hat⟩ := hg.at_ (lookS_ok hs)
  rw [hat.i, hat.eq]
def ptrOf : Value → Addr
  | .pointer (some a) => a
  | _ => ⟨0, 0, none⟩
set_option maxRecDepth 100000 in
set_option maxHeartbeats 8000000 in
theorem implPL_any (n : NetT) (u : (Option Addr × Nat) × (Option Addr × Nat)) (A : Option Addr) (c : Nat) (l : List StepT) (w : World) (hr : RdNet 67 w u n) (hg : Good n) (hC : Kd.C kStep w A l.length l) :
    Calls Try.prog 148 #[.agg #[.slice u.1.1 n.pieces.length u.1.2, .slice u.2.1 n.joints.length u.2.2], .slice A l.length c] w
      fun e w' => ∃ v, e = .returned (.tuple #[v, .bool (plOk n l)]) ∧ Kd.R kLie 111 w' w.heap.size (fun _ => True) v (plV n l) ∧ Below w.heap.size w w' := by
  have HR := Aside0.mk hr
  have HG := Aside0.mk hg
  have HC := Aside0.mk hC
  have hm0 := hr.1.1.2.1
  have hml := hC.2.1
  have hp1 := hg.p1
  obtain ⟨⟨A0, c0⟩, ⟨A1, c1⟩⟩ := u
  obtain ⟨W0, hW0⟩ : ∃ W0 : World, W0 = (w.alloc (.cells #[.slice A0 n.pieces.length c0, .slice A1 n.joints.length c1] 35)).alloc (.cells #[.slice A l.length c] 83) := ⟨_, rfl⟩
  have N0 : Aside0 (Bx W0 w.heap.size [.slice A0 n.pieces.length c0, .slice A1 n.joints.length c1]) := ⟨by rw [hW0]; exact (Bx.new w [.slice A0 n.pieces.length c0, .slice A1 n.joints.length c1] 35).alloc _⟩
  have S0 : Aside0 (Bx W0 (w.heap.size + 1) [.slice A l.length c]) := ⟨by
    have := Bx.new (w.alloc (.cells #[.slice A0 n.pieces.length c0, .slice A1 n.joints.length c1] 35)) [.slice A l.length c] 83
    rw [hW0]; simpa using this⟩
  have B0 : Aside0 (Below w.heap.size w W0) := ⟨by rw [hW0]; exact below_two _ _ _⟩
  have HW0 := Aside0.mk hW0
  clear hr hg hC hW0
  by_cases h400 : (400 : Int) < (l.length : Int)
  · have HV := Aside0.mk (pl_bad (n := n) (steps_long (l := l) (by omega)))
    go_enter Try.func148, Try.ntmps148
    go_wp2_with fail
    refine bodyPost_ret (v := .tuple #[.slice none 0 0, .bool false]) (by simp [results, Try.results148, go_sem]) rfl ⟨.slice none 0 0, by rw [HV.out.1], by rw [HV.out.2]; exact Kd.R_nil .., below_two _ _ _⟩
  · have hmm := @run_makeMap Try.prog
    have s0 := S0.out.c 0 _ rfl
    go_enter Try.func148, Try.ntmps148
    go_wp2_with fail
    rw [← HW0.out]
    clear s0
    go_loopw [23] (fun v23 wr => ∃ i : Nat, v23 = .int .i64 (i : Int) ∧ i ≤ l.length ∧ Aside0 (∀ k, k < i → stepB n (l.getD k default) = true) ∧ Aside0 (Below W0.heap.size W0 wr)) (fun v23 _ => l.length - (intOf v23).toNat)
    case atStart => exact ⟨0, rfl, Nat.zero_le _, ⟨fun k hk => by omega⟩, ⟨Below.refl _ _⟩⟩
    case round =>
      obtain ⟨i, rfl, hi, HT, HBr⟩ := hrel
      have N1 := Aside0.mk (N0.out.below HBr.out)
      by_cases hlt : i < l.length
      · obtain ⟨ad0, e0, y0, y1⟩ := at_Step HC.out i hlt
        subst e0
        have hbw := below_more B0.out HBr.out
        replace y0 := pw_cell_below hbw y0
        replace y1 := pw_cell_below hbw y1
        have HBW := Aside0.mk hbw
        obtain ⟨⟨sp, sw⟩, hs⟩ : ∃ s, s = l.getD i default := ⟨_, rfl⟩
        rw [← hs] at y0 y1
        have N2 := Aside0.mk (N1.out.alloc (.cells #[.int .i64 sp, .int .i64 sw] 85))
        have B2 := Aside0.mk (below_alloc HBr.out (.cells #[.int .i64 sp, .int .i64 sw] 85))
        have BW2 := Aside0.mk (below_alloc hbw (.cells #[.int .i64 sp, .int .i64 sw] 85))
        have n0 := N2.out.c 0 _ rfl
        cases hb : stepB n ⟨sp, sw⟩ with
        | true =>
          obtain ⟨h0, h1, h2⟩ := stepB_iff.1 hb
          simp only at h0 h1 h2
          have HSB := Aside0.mk (show stepB n (l.getD i default) = true by rw [← hs]; exact hb)
          have q0 : ¬ sp < 0 := by omega
          have q1 : ¬ (n.pieces.length : Int) ≤ sp := by omega
          clear hs hb hbw h0 h1
          rcases h2 with h2 | h2
          · subst h2
            go_wp2_with fail
            go_roundw
            case rel => exact ⟨i + 1, by go_num, by omega, ⟨upto_step HT.out HSB.out⟩, B2⟩
            case measure => simp [intOf]; omega
          · subst h2
            go_wp2_with fail
            go_roundw
            case rel => exact ⟨i + 1, by go_num, by omega, ⟨upto_step HT.out HSB.out⟩, B2⟩
            case measure => simp [intOf]; omega
        | false =>
          have HV := Aside0.mk (pl_bad (steps_one hlt (by rw [← hs]; exact hb)))
          have hnb : ¬ (0 ≤ sp ∧ sp < (n.pieces.length : Int) ∧ (sw = 1 ∨ sw = -1)) := fun h => by rw [stepB_iff.2 h] at hb; cases hb
          clear hs hb hbw
          by_cases q0 : sp < 0
          · clear hnb
            go_wp2_with fail
            refine bodyPost_ret (v := .tuple #[.slice none 0 0, .bool false]) (by simp [results, Try.results148, go_sem]) rfl ⟨.slice none 0 0, by rw [HV.out.1], by rw [HV.out.2]; exact Kd.R_nil .., BW2.out⟩
          · by_cases q1 : (n.pieces.length : Int) ≤ sp
            · clear hnb
              go_wp2_with fail
              refine bodyPost_ret (v := .tuple #[.slice none 0 0, .bool false]) (by simp [results, Try.results148, go_sem]) rfl ⟨.slice none 0 0, by rw [HV.out.1], by rw [HV.out.2]; exact Kd.R_nil .., BW2.out⟩
            · have q2 : (sw != 1) = true := by
                have : ¬ sw = 1 := fun h => hnb ⟨by omega, by omega, .inl h⟩
                simpa using this
              have q3 : (sw != -1) = true := by
                have : ¬ sw = -1 := fun h => hnb ⟨by omega, by omega, .inr h⟩
                simpa using this
              clear hnb
              go_wp2_with fail
              refine bodyPost_ret (v := .tuple #[.slice none 0 0, .bool false]) (by simp [results, Try.results148, go_sem]) rfl ⟨.slice none 0 0, by rw [HV.out.1], by rw [HV.out.2]; exact Kd.R_nil .., BW2.out⟩
      · have HT1 := Aside0.mk (show ∀ k, k < l.length → stepB n (l.getD k default) = true from fun k hk => HT.out k (by omega))
        have HSB := Aside0.mk (steps_all' (n := n) (l := l) (by omega) HT1.out)
        have HBW := Aside0.mk (below_more B0.out HBr.out)
        have S1 := Aside0.mk (S0.out.below HBr.out)
        go_wp2_with fail
        clear hlt hi
        obtain ⟨WA, hWA⟩ : ∃ WA : World, WA = wr := ⟨_, rfl⟩
        rw [← hWA] at HBr N1 HBW S1 ⊢
        clear hWA
        go_loopw [8, 10] (fun v8 v10 wr => ∃ (j bi : Nat) (out : List LieT) (lm : List (Int × Int)) (J : Int), v10 = .pointer (some ⟨bi, 0, none⟩) ∧ J = (j : Int) ∧ 1 ≤ j ∧ j ≤ l.length + 1 ∧ Aside0 (PI n l j out) ∧ Aside0 (PJ WA wr v8 bi J out lm)) (fun v8 v10 wr => l.length + 1 - (intOf ((wr.cell? (ptrOf v10)).getD (.int .i64 0))).toNat)
        case atStart => exact ⟨1, WA.heap.size + 1, [], [], 1, rfl, rfl, Nat.le_refl _, by omega, ⟨PI.start n l⟩, ⟨PJ.start WA⟩⟩
        case round =>
          obtain ⟨j, bi, out, lm, J, rfl, hJ, hj1, hj2, HP, HQ⟩ := hrel
          have HBt := Aside0.mk (below_more HBW.out HQ.out.b0)
          have N2 := Aside0.mk (N1.out.below HQ.out.b0)
          have S2 := Aside0.mk (S1.out.below HQ.out.b0)
          have HJ := Aside0.mk hJ
          have i0 := HQ.out.box.c 0 _ rfl
          have s0 := S2.out.c 0 _ rfl
          by_cases hlt : j < l.length
          · have hJ1 : J < (l.length : Int) := by omega
            obtain ⟨k, rfl⟩ : ∃ k, j = k + 1 := ⟨j - 1, by omega⟩
            have hkl : k < l.length := by omega
            obtain ⟨ad0, e0, y0, y1⟩ := at_Step HC.out k hkl
            subst e0
            replace y0 := pw_cell_below HBt.out y0
            replace y1 := pw_cell_below HBt.out y1
            have hst := HT1.out k hkl
            have htt := HT1.out (k + 1) hlt
            have HTT := Aside0.mk htt
            obtain ⟨⟨sp, sw⟩, hs⟩ : ∃ s, s = l.getD k default := ⟨_, rfl⟩
            rw [← hs] at y0 y1 hst
            have HS := Aside0.mk hs
            have HST := Aside0.mk hst
            obtain ⟨⟨lp, ls⟩, hlk⟩ : ∃ e, e = lookS ⟨sp, sw⟩ := ⟨_, rfl⟩
            have HLK := Aside0.mk hlk.symm
            have HA := Aside0.mk (across_both HG.out hst hlk)
            have hJ2 : IntKind.i64.wrap (J - 1) = (k : Int) := by rw [wrap64 (by omega) (by omega)]; omega
            have HJ3 : Aside0 (Go.RowKit.wrap64 (J + 1) = ((k + 1 + 1 : Nat) : Int)) := ⟨by rw [hJ]; unfold Go.RowKit.wrap64; push_cast; omega⟩
            have hk0 : (0 : Int) ≤ (k : Int) := by omega
            have hk1 : (k : Int) < (l.length : Int) := by omega
            clear hs hst htt hlk hJ hj1 hj2
            have n0 := N2.out.c 0 _ rfl; have n1 := N2.out.c 1 _ rfl
            have HS0 : Aside0 (∀ W, Below wr.heap.size wr W → (Below wr.heap.size wr W ∧ W.cell? ⟨w.heap.size, 0, none⟩ = some (.slice A0 n.pieces.length c0) ∧ W.cell? ⟨w.heap.size, 1, none⟩ = some (.slice A1 n.joints.length c1) ∧ W.cell? ⟨w.heap.size + 1, 0, none⟩ = some (.slice (some ad0) l.length c) ∧ W.cell? ⟨bi, 0, none⟩ = some (.int .i64 J) ∧ W.cell? (ad0.add (k * 2)) = some (.int .i64 sp) ∧ W.cell? ⟨(ad0.add (k * 2)).block, (ad0.add (k * 2)).off + 1, none⟩ = some (.int .i64 sw))) :=
              ⟨fun W hb => ⟨hb, (N2.out.below hb).c 0 _ rfl, (N2.out.below hb).c 1 _ rfl, (S2.out.below hb).c 0 _ rfl, (HQ.out.below hb).box.c 0 _ rfl, pw_cell_below hb y0, pw_cell_below hb y1⟩⟩
            go_wp2_with fail
            go_region_held3 (fun W => Below wr.heap.size wr W ∧ W.cell? ⟨w.heap.size, 0, none⟩ = some (.slice A0 n.pieces.length c0) ∧ W.cell? ⟨w.heap.size, 1, none⟩ = some (.slice A1 n.joints.length c1) ∧ W.cell? ⟨w.heap.size + 1, 0, none⟩ = some (.slice (some ad0) l.length c) ∧ W.cell? ⟨bi, 0, none⟩ = some (.int .i64 J) ∧ W.cell? (ad0.add (k * 2)) = some (.int .i64 sp) ∧ W.cell? ⟨(ad0.add (k * 2)).block, (ad0.add (k * 2)).off + 1, none⟩ = some (.int .i64 sw))
              (first | assumption | (with_reducible exact HS0.out _ (by assumption)) | (with_reducible exact HS0.out _ (Below.drew (Below.refl _ _))))
              (first
                | (go_at_call 155; go_split_ands; (with_reducible refine Calls.mono (looked_any ⟨sp, sw⟩ _) ?_); rintro e w3 ⟨rfl, b3⟩; rw [HLK.out]; have q3 : Below wr.heap.size wr w3 := below_more (by assumption) b3; clear b3)
                | (go_at_call 136; go_split_ands; (with_reducible refine Calls.mono (over_any n ((A0, c0), (A1, c1)) ⟨lp, ls⟩ _ (HR.out.below (below_more HBt.out (by assumption))) HG.out) ?_); rintro e w4 ⟨v1, v2, rfl, hr1, hr2, b4⟩; have q4 : Below wr.heap.size wr w4 := below_more (by assumption) b4; have B4 := Aside0.mk q4; have X1 := Aside0.mk (Kd.R_lower hr1 (Below.size (w := wr) (by assumption))); have X2 := Aside0.mk (Kd.R_lower hr2 (Below.size (w := wr) (by assumption))); clear b4 hr1 hr2))
            all_goals
              rw [HA.out.1] at X1
              rw [HA.out.2] at X2
              obtain ⟨A4, c4, e4, hc4, hC4⟩ := Kd.R_reads X1.out
              obtain ⟨A5, c5, e5, hc5, hC5⟩ := Kd.R_reads X2.out
              subst e4 e5
              have HC4 := Aside0.mk hC4
              have HC5 := Aside0.mk hC5
              have hm5 := hC5.2.1
              clear hC4 hC5 hc4 hc5
              have Q4 := Aside0.mk (HQ.out.below B4.out)
              have S4 := Aside0.mk (S2.out.below B4.out)
              have N4 := Aside0.mk (N2.out.below B4.out)
              have hmf : ∀ (fn : Fn) (first cap : Array Value) (w : World), (Instr.makeFunc fn first cap).run Try.prog w = .ok (.func fn first cap) w := fun _ _ _ _ => rfl
              go_wp2_with fail
              (with_reducible refine Calls.mono (index_any A4 c4 _ (w.heap.size + 1) bi (some ad0) c l (k + 1) _ HC4.out S4.out (by rw [HJ.out] at Q4; exact Q4.out.box) (Kd.C_below HC.out (below_more HBt.out B4.out)) hlt) ?_)
              rintro e w5 ⟨r, rfl, hd, b5⟩
              have Q5 := Aside0.mk (Q4.out.below b5)
              have S5 := Aside0.mk (S4.out.below b5)
              have N5 := Aside0.mk (N4.out.below b5)
              have B5 := Aside0.mk (below_more (below_more HBt.out B4.out) b5)
              have C5 := Aside0.mk (Kd.C_below HC5.out b5)
              have y50 := pw_cell_below (below_more B4.out b5) y0
              have y51 := pw_cell_below (below_more B4.out b5) y1
              clear b5 y0 y1 i0 s0 n0 n1
              rcases hd with ⟨rfl, hn⟩ | ⟨q, rfl, hq, hc⟩
              · have HV := Aside0.mk (pl_fail (HP.out.fail hlt (show stepLie n (l.getD k default) (l.getD (k + 1) default) = none by rw [← HS.out]; exact stepLie_none HG.out HST.out HTT.out hn)))
                clear hn
                go_wp2_with fail
                refine bodyPost_ret (v := .tuple #[.slice none 0 0, .bool false]) (by simp [results, Try.results148, go_sem]) rfl ⟨.slice none 0 0, by rw [HV.out.1], by rw [HV.out.2]; exact Kd.R_nil .., B5.out⟩
              · have HSL := Aside0.mk (stepLie_some HG.out HST.out HTT.out hq hc)
                have hqh := (how_at HG.out (lookS_ok HST.out) hq).1
                obtain ⟨ad5, e5, z0⟩ := at_Int C5.out q hqh
                subst e5
                have hqi : (q : Int) < ((howJ (jOf n (lookS ⟨sp, sw⟩)) (kOf n (lookS ⟨sp, sw⟩))).length : Int) := by omega
                have hq0 : (0 : Int) ≤ (q : Int) := by omega
                have hqn : ¬ (q : Int) < 0 := by omega
                obtain ⟨LH, hLH⟩ : ∃ x, x = (howJ (jOf n (lookS ⟨sp, sw⟩)) (kOf n (lookS ⟨sp, sw⟩))).length := ⟨_, rfl⟩
                rw [← hLH] at hqi hm5 ⊢
                obtain ⟨h, hh⟩ : ∃ x, x = (howJ (jOf n (lookS ⟨sp, sw⟩)) (kOf n (lookS ⟨sp, sw⟩))).getD q 0 := ⟨_, rfl⟩
                rw [← hh] at z0 HSL
                have HBL : Aside0 (ad5.block ≠ WA.heap.size) := ⟨by
                  have h1 := Kd.R_base X2.out ad5.block rfl
                  have h2 := HQ.out.sz
                  omega⟩
                clear hq hc hqh hLH hh
                have i5 := Q5.out.box.c 0 _ rfl
                by_cases hz : h = 0
                · subst hz
                  rw [if_pos rfl] at HSL
                  go_wp2_with fail
                  go_roundw
                  case rel => exact ⟨k + 1 + 1, w5.heap.size, out, lm, _, rfl, HJ3.out, by omega, by omega, ⟨HP.out.skip hlt (show stepLie n (l.getD k default) (l.getD (k + 1) default) = some none by rw [← HS.out]; exact HSL.out)⟩, ⟨Q5.out.next _⟩⟩
                  case measure =>
                    have e1 := (Q5.out.next (Go.RowKit.wrap64 (J + 1))).box.c 0 _ rfl
                    have e2 := HQ.out.box.c 0 _ rfl
                    have e3 := HJ.out
                    simp [ptrOf, intOf, e1, e2, HJ3.out]
                    omega
                · rw [if_neg hz] at HSL
                  have hzb : (h == 0) = false := by simpa using hz
                  obtain ⟨I, hI⟩ : ∃ I, I = iOf n (lookS ⟨sp, sw⟩) := ⟨_, rfl⟩
                  obtain ⟨K, hK⟩ : ∃ K, K = (atEnd n ⟨lp, ls⟩).2 := ⟨_, rfl⟩
                  have HAT := Aside0.mk (show atEnd n ⟨lp, ls⟩ = ((I : Int), K) from by rw [hI, hK]; exact at_both HG.out HST.out HLK.out.symm)
                  rw [← hI] at HSL
                  clear hI hK hz
                  have HT0 : Aside0 (∀ W, Below w5.heap.size w5 W → (Below w5.heap.size w5 W ∧ W.cell? ⟨w.heap.size, 0, none⟩ = some (.slice A0 n.pieces.length c0) ∧ W.cell? ⟨w.heap.size, 1, none⟩ = some (.slice A1 n.joints.length c1) ∧ W.cell? ⟨w.heap.size + 1, 0, none⟩ = some (.slice (some ad0) l.length c) ∧ W.cell? ⟨bi, 0, none⟩ = some (.int .i64 J) ∧ W.cell? (ad0.add (k * 2)) = some (.int .i64 sp) ∧ W.cell? ⟨(ad0.add (k * 2)).block, (ad0.add (k * 2)).off + 1, none⟩ = some (.int .i64 sw))) :=
                    ⟨fun W hb => ⟨hb, (N5.out.below hb).c 0 _ rfl, (N5.out.below hb).c 1 _ rfl, (S5.out.below hb).c 0 _ rfl, (Q5.out.below hb).box.c 0 _ rfl, pw_cell_below hb y50, pw_cell_below hb y51⟩⟩
                  have n0 := N5.out.c 0 _ rfl; have n1 := N5.out.c 1 _ rfl; have s0 := S5.out.c 0 _ rfl
                  have Z0 := Aside0.mk z0
                  clear y50 y51
                  go_wp2_with fail
                  go_region_held3 (fun W => Below w5.heap.size w5 W ∧ W.cell? ⟨w.heap.size, 0, none⟩ = some (.slice A0 n.pieces.length c0) ∧ W.cell? ⟨w.heap.size, 1, none⟩ = some (.slice A1 n.joints.length c1) ∧ W.cell? ⟨w.heap.size + 1, 0, none⟩ = some (.slice (some ad0) l.length c) ∧ W.cell? ⟨bi, 0, none⟩ = some (.int .i64 J) ∧ W.cell? (ad0.add (k * 2)) = some (.int .i64 sp) ∧ W.cell? ⟨(ad0.add (k * 2)).block, (ad0.add (k * 2)).off + 1, none⟩ = some (.int .i64 sw))
                    (first | assumption | (with_reducible exact HT0.out _ (by assumption)) | (with_reducible exact HT0.out _ (Below.drew (Below.refl _ _))))
                    (first
                      | (go_at_call 155; go_split_ands; (with_reducible refine Calls.mono (looked_any ⟨sp, sw⟩ _) ?_); rintro e w6 ⟨rfl, b6⟩; rw [HLK.out]; have q6 : Below w5.heap.size w5 w6 := below_more (by assumption) b6; clear b6)
                      | (go_at_call 134; go_split_ands; (with_reducible refine Calls.mono (at_any n ((A0, c0), (A1, c1)) ⟨lp, ls⟩ _ (HR.out.below (below_more B5.out (by assumption)))) ?_); rintro e w7 ⟨rfl, b7⟩; rw [HAT.out]; have q7 : Below w5.heap.size w5 w7 := below_more (by assumption) b7; have B7 := Aside0.mk q7; clear b7))
                  all_goals
                    have Q7 := Aside0.mk (Q5.out.below B7.out)
                    have i7 := Q7.out.box.c 0 _ rfl
                    have z7 := pw_cell_below B7.out Z0.out
                    clear z0 i5 n0 n1 s0 Z0
                    cases hl : lk lm (I : Int) with
                    | none =>
                      have hg := lie_get Q7.out.map (I : Int)
                      rw [hl] at hg
                      simp only [Option.getD_none, Option.isSome_none] at hg
                      obtain ⟨o8, hput, hM8⟩ := lie_put Q7.out.map (I : Int) h
                      have HL := Aside0.mk hl
                      have M8 := Aside0.mk hM8
                      obtain ⟨W8, hW8⟩ : ∃ W8, W8 = putMap w7 WA.heap.size o8 := ⟨_, rfl⟩
                      have HW8 := Aside0.mk hW8
                      have z8 : W8.cell? (ad5.add q) = some (.int .i64 h) := by rw [hW8]; exact (cell_put (a := ad5.add q) (by have := HBL.out; unfold Addr.add; split <;> exact this)).trans z7
                      have hr8 := Q7.out.rowPut (o := o8)
                      have hs8 : WA.heap.size + 1 ≤ W8.heap.size := by rw [hW8]; unfold putMap; simp; exact Q7.out.sz
                      have hs8' : bi < W8.heap.size := by rw [hW8]; unfold putMap; simp; exact Q7.out.box.lt
                      rw [← hW8] at hput hr8
                      have HR8 := Aside0.mk hr8
                      have HS8 := Aside0.mk hs8
                      have HS8' := Aside0.mk hs8'
                      have HOL := Aside0.mk (show out.length ≤ 400 from by have := HP.out.2.1; omega)
                      clear hl hM8 hW8 hr8 hs8 hs8'
                      go_wp2_with ((with_reducible refine gate_callP (b := .append) (xs := #[.tmp 103, .tmp 110]) rfl ?_); at_builtin; refine Kd.R_append kLie (w0 := W8) (WA.heap.size + 1) rfl (.tmp 103) (.tmp 110) 95 111 (.agg #[.int .i64 0, .int .i64 0]) 16 rfl Try.underlying95 info111 rfl (by decide) (by omega) u8 out ⟨I, h⟩ [.int .i64 I, .int .i64 h] (fun g => g ≠ bi) (fun _ => False) rfl (by first | (go_simp; done) | (go_simp; rfl)) (kLie_mkM _ _ _ ⟨I, h⟩) (fun _ hk => hk.elim) (fun g hg => by have := HS8'.out; show g ≠ bi; omega) HR8.out (Below.refl _ _) HS8.out (by have := HOL.out; omega) ?_; intro v9 w9 hR9 hB9 hG9 hat9; have Q9 := Aside0.mk (PJ.add (x := ⟨I, h⟩) Q7.out HL.out M8.out hR9 (by rw [← HW8.out]; exact hB9) (by rw [← HW8.out]; exact hG9)); have i9 := Q9.out.box.c 0 _ rfl; clear hR9 hB9 hG9 hat9)
                      go_roundw
                      case rel => exact ⟨k + 1 + 1, w9.heap.size, _, _, _, rfl, HJ3.out, by omega, by omega, ⟨HP.out.add hlt (show stepLie n (l.getD k default) (l.getD (k + 1) default) = _ by rw [← HS.out]; exact HSL.out) (Q7.out.lies.lacks HL.out)⟩, ⟨Q9.out.next _⟩⟩
                      case measure =>
                        have e1 := (Q9.out.next (Go.RowKit.wrap64 (J + 1))).box.c 0 _ rfl
                        have e2 := HQ.out.box.c 0 _ rfl
                        have e3 := HJ.out
                        simp [ptrOf, intOf, e1, e2, HJ3.out]
                        omega
                    | some v =>
                      have hg := lie_get Q7.out.map (I : Int)
                      rw [hl] at hg
                      simp only [Option.getD_some, Option.isSome_some] at hg
                      have HAD := Aside0.mk (Q7.out.lies.has (x := ⟨I, h⟩) hl)
                      clear hl
                      by_cases hv : v = h
                      · subst hv
                        rw [if_pos rfl] at HAD
                        have hvv : (v != v) = false := by simp
                        go_wp2_with fail
                        go_roundw
                        case rel => exact ⟨k + 1 + 1, w7.heap.size, out, lm, _, rfl, HJ3.out, by omega, by omega, ⟨HP.out.add hlt (show stepLie n (l.getD k default) (l.getD (k + 1) default) = _ by rw [← HS.out]; exact HSL.out) HAD.out⟩, ⟨Q7.out.next _⟩⟩
                        case measure =>
                          have e1 := (Q7.out.next (Go.RowKit.wrap64 (J + 1))).box.c 0 _ rfl
                          have e2 := HQ.out.box.c 0 _ rfl
                          have e3 := HJ.out
                          simp [ptrOf, intOf, e1, e2, HJ3.out]
                          omega
                      · rw [if_neg hv] at HAD
                        have hvv : (v != h) = true := by simpa using hv
                        have HV := Aside0.mk (pl_fail (HP.out.bad hlt (show stepLie n (l.getD k default) (l.getD (k + 1) default) = _ by rw [← HS.out]; exact HSL.out) HAD.out))
                        have B9 := Aside0.mk (below_more B5.out B7.out)
                        clear hv
                        go_wp2_with fail
                        refine bodyPost_ret (v := .tuple #[.slice none 0 0, .bool false]) (by simp [results, Try.results148, go_sem]) rfl ⟨.slice none 0 0, by rw [HV.out.1], by rw [HV.out.2]; exact Kd.R_nil .., B9.out⟩
          · have HD := Aside0.mk (pl_done HSB.out (HP.out.stop (by omega)))
            have hJ1 : ¬ J < (l.length : Int) := by omega
            clear hlt hj1 hj2 hJ
            go_wp2_with fail
            refine bodyPost_ret (v := .tuple #[u8, .bool true]) (by simp [results, Try.results148, go_sem]) rfl ⟨u8, by rw [HD.out.1], by rw [HD.out.2]; exact Kd.R_lower (Kd.R_mono HQ.out.row (fun _ _ => trivial)) (by have := HBW.out.size; omega), HBt.out⟩
end Go.Proofs.Ytckcffjnffcjcaa
set_option linter.unusedVariables false
set_option linter.unusedSimpArgs false
namespace Go.Proofs.Ytckcffjnffcjcaa
/-- Where a drive has come to (at the beginning of a piece) and how far. -/
abbrev ItemT := SpotT × Int
def spotLt (a b : SpotT) : Bool := decide (a.piece < b.piece ∨ a.piece = b.piece ∧ (a.at_ < b.at_ ∨ a.at_ = b.at_ ∧ a.way < b.way))
theorem spotLt_iff {a b : SpotT} : spotLt a b = true ↔ (a.piece < b.piece ∨ a.piece = b.piece ∧ (a.at_ < b.at_ ∨ a.at_ = b.at_ ∧ a.way < b.way)) := by unfold spotLt; simp
theorem spotLt_total {a b : SpotT} (h : a ≠ b) : spotLt a b = true ∨ spotLt b a = true := by
  rw [spotLt_iff, spotLt_iff]
  by_cases h1 : a.piece = b.piece
  · by_cases h2 : a.at_ = b.at_
    · have : a.way ≠ b.way := fun h3 => h (SpotT.ext_iff.1 ⟨h1, h2, h3⟩)
      omega
    · omega
  · omega
theorem spotLt_irrefl (a : SpotT) : spotLt a a = false := by unfold spotLt; simp
theorem spotLt_trans {a b c : SpotT} (h : spotLt a b = true) (h2 : spotLt b c = true) : spotLt a c = true := by
  rw [spotLt_iff] at *; omega
/-- Two ascending lists of the same spots are one. -/
theorem sorted_unique : ∀ {l m : List SpotT}, l.Pairwise (fun a b => spotLt a b = true) → m.Pairwise (fun a b => spotLt a b = true) → (∀ x, x ∈ l ↔ x ∈ m) → l = m
  | [], [], _, _, _ => rfl
  | [], b :: m, _, _, h => absurd ((h b).2 (by simp)) (by simp)
  | a :: l, [], _, _, h => absurd ((h a).1 (by simp)) (by simp)
  | a :: l, b :: m, hl, hm, h => by
    rw [List.pairwise_cons] at hl hm
    have hab : a = b := by
      rcases List.mem_cons.1 ((h a).1 (by simp)) with e | e
      · exact e
      · rcases List.mem_cons.1 ((h b).2 (by simp)) with e2 | e2
        · exact e2.symm
        · have := spotLt_trans (hm.1 a e) (hl.1 b e2)
          rw [spotLt_irrefl] at this; cases this
    subst hab
    congr 1
    refine sorted_unique hl.2 hm.2 fun x => ?_
    have hna : ∀ {k : List SpotT}, (∀ b ∈ k, spotLt a b = true) → a ∉ k := fun hk hmem => by
      have := hk a hmem
      rw [spotLt_irrefl] at this; cases this
    constructor
    · intro hx
      rcases List.mem_cons.1 ((h x).1 (by simp [hx])) with rfl | e
      · exact absurd hx (hna hl.1)
      · exact e
    · intro hx
      rcases List.mem_cons.1 ((h x).2 (by simp [hx])) with rfl | e
      · exact absurd hx (hna hm.1)
      · exact e
end Go.Proofs.Ytckcffjnffcjcaa
set_option linter.unusedVariables false
set_option linter.unusedSimpArgs false
namespace Go.Proofs.Ytckcffjnffcjcaa
def sortS (l : List SpotT) : List SpotT := l.mergeSort (fun a b => !spotLt b a)
theorem sortS_mem (l : List SpotT) (x : SpotT) : x ∈ sortS l ↔ x ∈ l := (List.mergeSort_perm l _).mem_iff
theorem spotLt_asymm {a b : SpotT} (h : spotLt a b = true) : spotLt b a = false := by
  rw [Bool.eq_false_iff]; intro h2
  have := spotLt_trans h h2
  rw [spotLt_irrefl] at this; cases this
theorem sortS_sorted {l : List SpotT} (h : l.Nodup) : (sortS l).Pairwise (fun a b => spotLt a b = true) := by
  have h1 : (sortS l).Pairwise (fun a b => (!spotLt b a) = true) := List.pairwise_mergeSort (fun a b c hab hbc => by
      simp only [Bool.not_eq_true'] at hab hbc ⊢
      rw [Bool.eq_false_iff] at hab hbc ⊢
      rw [ne_eq, spotLt_iff] at *
      omega) (fun a b => by
      by_cases e : a = b
      · subst e; rw [spotLt_irrefl]; rfl
      · rcases spotLt_total e with h | h
        · rw [spotLt_asymm h]; rfl
        · rw [spotLt_asymm h]; simp) l
  have h2 : (sortS l).Nodup := (List.mergeSort_perm l _).nodup_iff.2 h
  refine (h1.and h2).imp fun {a b} hab => ?_
  rcases spotLt_total hab.2 with h | h
  · exact h
  · rw [h] at hab; simp at hab
theorem sortS_eq {l m : List SpotT} (hl : l.Nodup) (hm : m.Pairwise (fun a b => spotLt a b = true)) (h : ∀ x, x ∈ m ↔ x ∈ l) : m = sortS l :=
  sorted_unique hm (sortS_sorted hl) (fun x => by rw [sortS_mem]; exact h x)
end Go.Proofs.Ytckcffjnffcjcaa
set_option linter.unusedVariables false
set_option linter.unusedSimpArgs false
namespace Go.Proofs.Ytckcffjnffcjcaa
/-- The row up to place i is in order but for place k, which stands ahead of what is behind it. -/
structure SI (out : List SpotT) (i k : Nat) (l : List SpotT) : Prop where
  p : l.Perm out
  ki : k ≤ i
  il : i < l.length
  rest : ∀ a b, a < b → b ≤ i → a ≠ k → b ≠ k → spotLt (l.getD a default) (l.getD b default) = true
  own : ∀ b, k < b → b ≤ i → spotLt (l.getD k default) (l.getD b default) = true
def SO (out : List SpotT) (i : Nat) (l : List SpotT) : Prop := l.Perm out ∧ ∀ a b, a < b → b < i → spotLt (l.getD a default) (l.getD b default) = true
theorem SO.all {out l : List SpotT} {i : Nat} (h : SO out i l) (hn : out.Nodup) (hi : l.length ≤ i) : l = sortS out := by
  refine sortS_eq hn ?_ (fun x => h.1.mem_iff)
  rw [List.pairwise_iff_getElem]
  intro a b ha hb hab
  have := h.2 a b hab (by omega)
  rwa [getD_at _ a ha, getD_at _ b hb] at this
end Go.Proofs.Ytckcffjnffcjcaa
set_option linter.unusedVariables false
set_option linter.unusedSimpArgs false
namespace Go.Proofs.Ytckcffjnffcjcaa
open Go.RowKit Go.Proofs.YtckcffjnffcjcaaW.PrintWords
theorem acrossJ_few (j : JointT) (q : Nat) : (acrossJ j q).length ≤ 2 := by
  unfold acrossJ
  split
  · simp
  · split
    · split <;> simp
    · split <;> simp
end Go.Proofs.Ytckcffjnffcjcaa
set_option linter.unusedVariables false
set_option linter.unusedSimpArgs false
namespace Go.Proofs.Ytckcffjnffcjcaa
open Go.RowKit Go.Proofs.YtckcffjnffcjcaaW.PrintWords
def hR (x : ItemT) : HdrT := (x.1.piece, x.1.at_, x.1.way, x.2, (none, 0, 0))
theorem below_low {a b : Nat} {w w1 w2 : World} (h : Below a w w1) (k : Below b w1 w2) (hab : a ≤ b) : Below a w w2 :=
  h.trans ⟨k.os, k.tape, k.output, k.size, fun i hi => k.block i (Nat.lt_of_lt_of_le hi hab)⟩
/-- Amid a round. B: from where on the new line lies; xb: a block that is none of the rows'. -/
structure RX (w : World) (nv : List Value) (B xb : Nat) (W : World) (v7 v10 vl : Value) (out : List SpotT) (next line : List ItemT) : Prop where
  net : Bx W w.heap.size nv
  o : kSpot.R 38 W (w.heap.size + 2) (fun k => k ≠ xb) v7 out
  nx : kHdr.R 172 W B (fun k => k ≠ xb) v10 (next.map hR)
  l : kHdr.R 172 W (w.heap.size + 2) (fun k => k < B) vl (line.map hR)
  b0 : Below w.heap.size w W
  hB : w.heap.size + 2 ≤ B
  hW : B ≤ W.heap.size
/-- Amid the loop over the ends across: the line's own way lies in block xb, the ends in a row from eb on. -/
structure RY (w : World) (nv : List Value) (B xb : Nat) (cv : List Value) (eb : Nat) (ve : Value) (E : List EndT) (W : World) (v7 v10 vl : Value) (out : List SpotT) (next line : List ItemT) : Prop where
  rx : RX w nv B xb W v7 v10 vl out next line
  c : Bx W xb cv
  e : kEnd.R 67 W eb (fun _ => True) ve E
end Go.Proofs.Ytckcffjnffcjcaa
set_option linter.unusedVariables false
set_option linter.unusedSimpArgs false
namespace Go.Proofs.Ytckcffjnffcjcaa
open Go.RowKit Go.Proofs.YtckcffjnffcjcaaW.PrintWords
theorem eq_keyGo (a b : ItemT) (w : World) : (Op.equal 192 (.agg #[.int .i64 a.1.piece, .int .i64 a.1.at_, .int .i64 a.1.way, .int .i64 a.2]) (.agg #[.int .i64 b.1.piece, .int .i64 b.1.at_, .int .i64 b.1.way, .int .i64 b.2])).run Try.prog w = .ok (((a.1.piece == b.1.piece) && ((a.1.at_ == b.1.at_) && (a.1.way == b.1.way))) && (a.2 == b.2)) w := by
  unfold Op.equal Op.maxDepth
  exact eqA_of Try.underlying192 (by kernel_rfl) (eqf_cons' (a := .agg #[.int .i64 a.1.piece, .int .i64 a.1.at_, .int .i64 a.1.way]) (b := .agg #[.int .i64 b.1.piece, .int .i64 b.1.at_, .int .i64 b.1.way]) (by kernel_rfl) (by kernel_rfl) (by kernel_rfl) (eqA_of Try.underlying38 (by kernel_rfl) (eqf_cons' (by kernel_rfl) (by kernel_rfl) (by kernel_rfl) (run_equalIn_int w 9997 3 .i64 .i64 a.1.piece b.1.piece Try.underlying3) (eqf_cons' (by kernel_rfl) (by kernel_rfl) (by kernel_rfl) (run_equalIn_int w 9997 3 .i64 .i64 a.1.at_ b.1.at_ Try.underlying3) (eqf_last (by kernel_rfl) (by kernel_rfl) (by kernel_rfl) (run_equalIn_int w 9997 3 .i64 .i64 a.1.way b.1.way Try.underlying3))))) (eqf_last (by kernel_rfl) (by kernel_rfl) (by kernel_rfl) (run_equalIn_int w 9998 3 .i64 .i64 a.2 b.2 Try.underlying3)))
theorem ItemT.ext_iff' (a b : ItemT) : a = b ↔ (a.1.piece = b.1.piece ∧ a.1.at_ = b.1.at_ ∧ a.1.way = b.1.way) ∧ a.2 = b.2 := by
  obtain ⟨⟨p, q, r⟩, s⟩ := a
  obtain ⟨⟨p', q', r'⟩, s'⟩ := b
  simp
def keyGo : KeyEnc Try.prog ItemT where
  t := 192
  kind := _
  enc := fun x => .agg #[.int .i64 x.1.piece, .int .i64 x.1.at_, .int .i64 x.1.way, .int .i64 x.2]
  hk := Try.underlying192
  inj := fun a b h => by
    injection h with h
    have := congrArg Array.toList h
    simp at this
    exact (ItemT.ext_iff' a b).2 ⟨⟨this.1, this.2.1, this.2.2.1⟩, this.2.2.2⟩
  same := fun a => by simp [Instr.sameBits]
  chk := fun e a w => by kernel_rfl
  find := find_of_eq (fun a b => (((a.1.piece == b.1.piece) && ((a.1.at_ == b.1.at_) && (a.1.way == b.1.way))) && (a.2 == b.2))) (fun a b => by simp only [Bool.and_eq_true, beq_iff_eq]; exact (ItemT.ext_iff' a b).symm) (.inr fun a b => by simp [Instr.sameNow]) (fun a b w => eq_keyGo a b w)
end Go.Proofs.Ytckcffjnffcjcaa
set_option linter.unusedVariables false
set_option linter.unusedSimpArgs false
namespace Go.Proofs.Ytckcffjnffcjcaa
open Go.RowKit Go.Proofs.YtckcffjnffcjcaaW.PrintWords
/-- How many are still to come, read out of the world. -/
theorem Iter.meas {P : Program} {κ ν : Type} {K : KeyEnc P κ} {V : ν → Value} {w : World} {b r : Nat} {l left : List (κ × ν)} (h : Iter K V w b r l left) : ∃ es clock, w.heap[b]? = some (.map es clock) ∧ (leftOf es (w.iterSeen r)).size = left.length := by
  obtain ⟨hm, es, clock, since, c0, seen, h1, h2, h3, h4, h5, h6, h7, hleft⟩ := h
  refine ⟨es, clock, h1, ?_⟩
  have e : w.iterSeen r = seen := by unfold World.iterSeen; rw [h3]
  rw [e, hleft]
  have hl : es.toList.length = l.length := by have := congrArg List.length h2; simpa using this
  unfold leftOf
  rw [← Array.length_toList, Array.toList_filter, List.length_map]
  have : ∀ (l : List (κ × ν)) (es : List MapEntry), es.length = l.length → (es.filter (fun e => !seen.contains e.born)).length = ((l.zip es).filter (fun p => !seen.contains p.2.born)).length := by
    intro l
    induction l with
    | nil => intro es h; rw [List.length_eq_zero_iff.1 h]; rfl
    | cons a l ih =>
      intro es h
      cases es with
      | nil => simp at h
      | cons e es =>
        have := ih es (by simpa using h)
        rw [List.zip_cons_cons, List.filter_cons, List.filter_cons]
        split <;> simp_all
  exact this l es.toList hl
/-- What a call leaves that changes one of the two maps. -/
def KeepM (w w' : World) (mt mo : Nat) : Prop := ∃ W1 b o, w' = putMap W1 b o ∧ (b = mt ∨ b = mo) ∧ Below w.heap.size w W1
section
variable {w w' w0 : World} {mt mo : Nat}
theorem KeepM.block (h : KeepM w w' mt mo) {k : Nat} (hk : k < w.heap.size) (h1 : k ≠ mt) (h2 : k ≠ mo) : w'.heap[k]? = w.heap[k]? := by
  obtain ⟨W1, b, o, rfl, hb, hB⟩ := h
  rw [putMap_other W1 b o (by rcases hb with rfl | rfl <;> assumption)]
  exact hB.block k hk
theorem KeepM.size (h : KeepM w w' mt mo) : w.heap.size ≤ w'.heap.size := by
  obtain ⟨W1, b, o, rfl, hb, hB⟩ := h
  simpa [putMap] using hB.size
theorem KeepM.below {B : Nat} (h : KeepM w w' mt mo) (h0 : Below B w0 w) (h1 : B ≤ mt) (h2 : B ≤ mo) (h3 : B ≤ w.heap.size) : Below B w0 w' := by
  obtain ⟨W1, b, o, rfl, hb, hB⟩ := h
  exact putMap_below (h0.trans ⟨hB.os, hB.tape, hB.output, hB.size, fun k hk => hB.block k (Nat.lt_of_lt_of_le hk h3)⟩) (by rcases hb with rfl | rfl <;> assumption)
theorem KeepM.bx (h : KeepM w w' mt mo) {k : Nat} {vs : List Value} (hx : Bx w k vs) (h1 : k ≠ mt) (h2 : k ≠ mo) : Bx w' k vs := by
  obtain ⟨W1, b, o, rfl, hb, hB⟩ := h
  exact (hx.below hB).put (by rcases hb with rfl | rfl <;> assumption)
theorem KeepM.row (h : KeepM w w' mt mo) {α : Type} {d : Kd α} {e base : Nat} {v : Value} {xs : List α} {ok : Nat → Prop} (hr : d.R e w base ok v xs) (h1 : mt < base) (h2 : mo < base) : d.R e w' base ok v xs :=
  Kd.R_mono (Kd.R_step (Kd.R_bound hr) (fun k hk hl => h.block hl (by have := hk.2.1; omega) (by have := hk.2.1; omega))) (fun _ hk => hk.1)
end
/-- The two maps: their variables' boxes and the maps themselves. -/
structure RM (W : World) (b7 b8 mt mo : Nat) (out : List SpotT) (O : List ItemT) : Prop where
  t : Bx W b7 [.map (some mt)]
  o : Bx W b8 [.map (some mo)]
  mT : MapOf keySpot Value.bool W mt (out.map (fun x => (x, true)))
  mO : MapOf keyGo Value.bool W mo (O.map (fun x => (x, true)))
  ne : b7 ≠ mt ∧ b7 ≠ mo ∧ b8 ≠ mt ∧ b8 ≠ mo ∧ mt ≠ mo
/-- An iterator's step, as KeepM tells it. -/
theorem KeepM.step {W W' : World} {r : Nat} {o : Obj} (h : W' = putMap W r o ∨ W' = putMap W.drew r o) : KeepM W W' r r := by
  rcases h with h | h
  · exact ⟨W, r, o, h, .inl rfl, Below.refl _ _⟩
  · exact ⟨W.drew, r, o, h, .inl rfl, below_drew (Below.refl _ _)⟩
end Go.Proofs.Ytckcffjnffcjcaa
set_option linter.unusedVariables false
set_option linter.unusedSimpArgs false
namespace Go.Proofs.Ytckcffjnffcjcaa
open Go.RowKit Go.Proofs.YtckcffjnffcjcaaW.PrintWords
def encC (c : CostT) : Value := .agg #[.int .i64 c.1, .int .i64 c.2]
/-- How far from the beginning of a spot's piece, in the spot's own way. -/
def inbS (n : NetT) (b : SpotT) : Int := if b.way = -1 then lenP n b.piece - b.at_ else b.at_
theorem inbS_bd {n : NetT} {b : SpotT} (hg : Good n) (h : spotB n b = true) : 0 ≤ inbS n b ∧ inbS n b ≤ 10000000 := by
  have h1 := spotB_iff.1 h
  have h2 := hg.len h1.1 h1.2.1
  unfold inbS
  split <;> omega
structure BI (opn left : List (StepT × CostT)) (s : StepT) (c : CostT) : Prop where
  sub : ∀ p ∈ left, p ∈ opn
  le : ∀ p ∈ opn, p ∈ left ∨ leC c p.2
  is : (s, c) ∈ opn ∨ (c = (1152921504606846976, 0) ∧ ∀ p ∈ opn, p ∈ left)
theorem BI.start (opn : List (StepT × CostT)) (s : StepT) : BI opn opn s (1152921504606846976, 0) := ⟨fun p h => h, fun p h => .inl h, .inr ⟨rfl, fun p h => h⟩⟩
theorem BI.take {opn left left' : List (StepT × CostT)} {s k : StepT} {c v : CostT} (h : BI opn left s c) (hk : (k, v) ∈ left) (h1 : ∀ p, p ∈ left ↔ p = (k, v) ∨ p ∈ left') (hlt : ltC v c = true) : BI opn left' k v := by
  refine ⟨fun p hp => h.sub p ((h1 p).2 (.inr hp)), fun p hp => ?_, .inl (h.sub _ hk)⟩
  rcases h.le p hp with h2 | h2
  · rcases (h1 p).1 h2 with e | e
    · rw [e]; exact .inr (leC_refl _)
    · exact .inl e
  · exact .inr (leC_trans (ltC_le hlt) h2)
theorem BI.leave {opn left left' : List (StepT × CostT)} {s k : StepT} {c v : CostT} (h : BI opn left s c) (hk : (k, v) ∈ left) (h1 : ∀ p, p ∈ left ↔ p = (k, v) ∨ p ∈ left') (hlt : ltC v c = false) (hv : v.1 ≤ 2010000000) : BI opn left' s c := by
  refine ⟨fun p hp => h.sub p ((h1 p).2 (.inr hp)), fun p hp => ?_, ?_⟩
  · rcases h.le p hp with h2 | h2
    · rcases (h1 p).1 h2 with e | e
      · rw [e]; exact .inr (leC_iff.2 hlt)
      · exact .inl e
    · exact .inr h2
  · rcases h.is with h2 | ⟨h2, _⟩
    · exact .inl h2
    · have : ltC v c = true := by rw [h2, ltC_iff]; left; show v.1 < 1152921504606846976; omega
      rw [this] at hlt; cases hlt
theorem BI.done {opn : List (StepT × CostT)} {s : StepT} {c : CostT} (h : BI opn [] s c) (hne : opn ≠ []) : (s, c) ∈ opn ∧ ∀ p ∈ opn, leC c p.2 := by
  refine ⟨?_, fun p hp => (h.le p hp).resolve_left (by simp)⟩
  rcases h.is with h2 | ⟨_, h2⟩
  · exact h2
  · cases opn with
    | nil => exact absurd rfl hne
    | cons p opn => exact absurd (h2 p List.mem_cons_self) (by simp)
def mapSz (W : World) (b : Nat) : Nat := match W.heap[b]? with
  | some (.map es _) => es.size
  | _ => 0
theorem MapOf.size {P : Program} {κ ν : Type} {K : KeyEnc P κ} {V : ν → Value} {w : World} {b : Nat} {l : List (κ × ν)} (h : MapOf K V w b l) : mapSz w b = l.length := by
  obtain ⟨⟨es, clock, h1, h2, _⟩, _⟩ := h
  unfold mapSz
  rw [h1]
  have := congrArg List.length h2
  simpa using this
theorem MapOf.mem_lk' {P : Program} {κ ν : Type} [DecidableEq κ] {K : KeyEnc P κ} {V : ν → Value} {w : World} {b : Nat} {l : List (κ × ν)} (h : MapOf K V w b l) {k : κ} {v : ν} (hm : (k, v) ∈ l) : lk l k = some v := mem_lk h.nodup hm
set_option maxRecDepth 100000 in
set_option maxHeartbeats 4000000 in
theorem costLess_any (a b : CostT) (w : World) :
    Calls Try.prog 182 #[.agg #[.int .i64 a.1, .int .i64 a.2], .agg #[.int .i64 b.1, .int .i64 b.2]] w fun e w' => e = .returned (.bool (ltC a b)) ∧ Below w.heap.size w w' := by
  obtain ⟨a1, a2⟩ := a
  obtain ⟨b1, b2⟩ := b
  obtain ⟨W0, hW0, hA, hB, fb0, hz0⟩ := box2 w [.int .i64 a1, .int .i64 a2] [.int .i64 b1, .int .i64 b2] 217 217
  have FB := Aside0.mk fb0
  have HW := Aside0.mk hW0
  have x0 := hA.c 0 _ rfl; have x1 := hA.c 1 _ rfl
  have y0 := hB.c 0 _ rfl; have y1 := hB.c 1 _ rfl
  clear fb0 hW0 hA hB
  go_enter Try.func182, Try.ntmps182
  go_upto_region 1 with (fail)
  rw [← HW.out]
  by_cases h1 : a1 < b1
  · have HV : Aside0 (ltC (a1, a2) (b1, b2) = true) := ⟨by rw [ltC_iff]; exact .inl h1⟩
    go_wp2_with fail
    go_ret
    exact ⟨by rw [HV.out]; rfl, FB.out⟩
  · by_cases h2 : a1 = b1
    · subst h2
      have e2 : (a1 == a1) = true := by simp
      have HV : Aside0 (ltC (a1, a2) (a1, b2) = decide (a2 < b2)) := ⟨by unfold ltC; simp⟩
      go_wp2_with fail
      go_ret
      exact ⟨by rw [HV.out]; rfl, FB.out⟩
    · have e2 : (a1 == b1) = false := by simpa using h2
      have HV : Aside0 (ltC (a1, a2) (b1, b2) = false) := ⟨by unfold ltC; simp [h1, h2]⟩
      go_wp2_with fail
      go_ret
      exact ⟨by rw [HV.out]; rfl, FB.out⟩
structure CO (w : World) (nv : List Value) (mk mo cb : Nat) (known : List (StepT × CostT)) (c1 c2 : Int) (eb : Nat) (ve : Value) (E : List EndT) (W : World) (opn : List (StepT × CostT)) : Prop where
  o : MapOf keyStep encC W mo opn
  k : MapOf keyStep encC W mk known
  n : Bx W w.heap.size nv
  c : Bx W cb [.int .i64 c1, .int .i64 c2]
  e : kEnd.R 67 W eb (fun _ => True) ve E
  b0 : Below w.heap.size w W
  ne : mk ≠ mo ∧ w.heap.size < mo ∧ mo < cb ∧ mo < eb
section
variable {w W W1 : World} {nv : List Value} {mk mo cb eb : Nat} {known opn opn' : List (StepT × CostT)} {c1 c2 : Int} {ve : Value} {E : List EndT}
theorem CO.below (h : CO w nv mk mo cb known c1 c2 eb ve E W opn) (hb : Below W.heap.size W W1) : CO w nv mk mo cb known c1 c2 eb ve E W1 opn :=
  ⟨h.o.below hb, h.k.below hb, h.n.below hb, h.c.below hb, Kd.R_below h.e hb, below_more h.b0 hb, h.ne⟩
theorem CO.put {ob : Obj} (h : CO w nv mk mo cb known c1 c2 eb ve E W opn) (hm : MapOf keyStep encC (putMap W mo ob) mo opn') : CO w nv mk mo cb known c1 c2 eb ve E (putMap W mo ob) opn' := by
  have K : KeepM W (putMap W mo ob) mo mo := ⟨W, mo, ob, rfl, .inl rfl, Below.refl _ _⟩
  have hne := h.ne
  exact ⟨hm, h.k.put hne.1, h.n.put (by omega), h.c.put (by omega), K.row h.e hne.2.2.2 hne.2.2.2, putMap_below h.b0 (by omega), hne⟩
end
theorem costZero (w : World) : (zeroValue 217).run Try.prog w = .ok (.agg #[.int .i64 0, .int .i64 0]) w := by kernel_rfl
theorem cost_get {w : World} {b : Nat} {l : List (StepT × CostT)} (h : MapOf keyStep encC w b l) (p y : Int) :
    (∃ c, lk l ⟨p, y⟩ = some c ∧ (Instr.lookup 214 (.map (some b)) (.agg #[.int .i64 p, .int .i64 y]) true).run Try.prog w = .ok (.tuple #[.agg #[.int .i64 c.1, .int .i64 c.2], .bool true]) w) ∨
    (lk l ⟨p, y⟩ = none ∧ (Instr.lookup 214 (.map (some b)) (.agg #[.int .i64 p, .int .i64 y]) true).run Try.prog w = .ok (.tuple #[.agg #[.int .i64 0, .int .i64 0], .bool false]) w) := by
  have h1 := h.lookup (t := 214) (e := 217) Try.underlying214 (costZero w) ⟨p, y⟩ true
  cases hk : lk l ⟨p, y⟩ with
  | some c => rw [hk] at h1; exact .inl ⟨c, rfl, h1⟩
  | none => rw [hk] at h1; exact .inr ⟨rfl, h1⟩
theorem cost_put {w : World} {b : Nat} {l : List (StepT × CostT)} (h : MapOf keyStep encC w b l) (p y c1 c2 : Int) :
    ∃ o, (Instr.mapUpdate 214 (.map (some b)) (.agg #[.int .i64 p, .int .i64 y]) (.agg #[.int .i64 c1, .int .i64 c2])).run Try.prog w = .ok () (putMap w b o) ∧ MapOf keyStep encC (putMap w b o) b (up l ⟨p, y⟩ (c1, c2)) :=
  h.update (t := 214) (e := 217) Try.underlying214 ⟨p, y⟩ ((c1, c2) : CostT)
section
variable {n : NetT} {known opn : List (StepT × CostT)} {c : CostT} {t : StepT}
theorem relaxD_known {ck : CostT} (h : lk known t = some ck) : relaxD n known c opn t = opn := by unfold relaxD; rw [h]; simp
theorem relaxD_new (h : lk known t = none) (ho : lk opn t = none) : relaxD n known c opn t = up opn t (c.1 + lenS n t, c.2 + 1) := by unfold relaxD; rw [h, ho]; simp
theorem relaxD_less {o : CostT} (h : lk known t = none) (ho : lk opn t = some o) (hl : ltC (c.1 + lenS n t, c.2 + 1) o = true) : relaxD n known c opn t = up opn t (c.1 + lenS n t, c.2 + 1) := by unfold relaxD; rw [h, ho]; simp [hl]
theorem relaxD_keep {o : CostT} (h : lk known t = none) (ho : lk opn t = some o) (hl : ltC (c.1 + lenS n t, c.2 + 1) o = false) : relaxD n known c opn t = opn := by unfold relaxD; rw [h, ho]; simp [hl]
end
end Go.Proofs.Ytckcffjnffcjcaa
