/- Texts of this work, of each what the claim leans on: FromX, From3. No conditions. -/
import Derived.Test.YtckcffjnffcjcaaVSh9
import Derived.Deep.RegionLaw
import Derived.Outline
set_option linter.unusedVariables false
set_option linter.unusedSimpArgs false
namespace Go.Proofs.Ytckcffjnffcjcaa
open Go.RowKit Go.Proofs.YtckcffjnffcjcaaW.PrintWords
theorem below_lw {a b : Nat} {w w1 w2 : World} (h : Below a w w1) (k : Below b w1 w2) (hab : a ≤ b) : Below a w w2 :=
  h.trans ⟨k.os, k.tape, k.output, k.size, fun i hi => k.block i (Nat.lt_of_lt_of_le hi hab)⟩
section
variable {W W1 : World} {base sb g n cap : Nat} {ok : Nat → Prop} {hl : List HdrT} {cl : List CarT}
theorem CR.over {v : Value} {α : Type} {d' : Kd α} {e' b' : Nat} {ok' : Nat → Prop} {v' : Value} {ys : List α} (h : CR W base sb ok v hl cl) (hv : d'.R e' W b' ok' v' ys) (ht1 : ∀ q, q ∈ 172 :: kHdr.E → q ≠ e') (ht2 : ∀ q, q ∈ 85 :: kStep.E → q ≠ e') (hg : W.grownBy W1 v'.ownBlock) : CR W1 base sb ok v hl cl :=
  ⟨Kd.R_over h.outer hv ht1 hg, h.len, fun i hi => by obtain ⟨A, c, h1, h2⟩ := h.each i hi; exact ⟨A, c, h1, Kd.R_over h2 hv ht2 hg⟩⟩
theorem CR.put {x : CarT} {A : Option Addr} {c : Nat} (h : CR W base sb ok (.slice (some ⟨g, 0, none⟩) n cap) hl cl) {i : Nat} (hi : i < n)
    (ho : Kd.R kHdr 172 W1 base ok (.slice (some ⟨g, 0, none⟩) n cap) (hl.set i (hdrOf x A c))) (hg : W.grownBy W1 (some g)) (hx : Kd.R kStep 85 W sb (fun _ => True) (.slice A x.steps.length c) x.steps) :
    CR W1 base sb ok (.slice (some ⟨g, 0, none⟩) n cap) (hl.set i (hdrOf x A c)) (cl.set i x) := by
  have hn : n = hl.length := (Kd.R_reads' h.outer).1
  have hic : i < cl.length := by rw [← h.len, ← hn]; exact hi
  refine ⟨ho, by rw [List.length_set, List.length_set]; exact h.len, fun q hq => ?_⟩
  rw [List.length_set] at hq
  rw [getD_set_all _ _ _ _ _ hic, getD_set_all _ _ _ _ _ (by rw [h.len]; exact hic)]
  by_cases e : i = q
  · subst e
    rw [if_pos rfl, if_pos rfl]
    exact ⟨A, c, rfl, Kd.R_over hx h.outer (by decide) hg⟩
  · rw [if_neg e, if_neg e]
    obtain ⟨B, d, h1, h2⟩ := h.each q hq
    exact ⟨B, d, h1, Kd.R_over h2 h.outer (by decide) hg⟩
end
structure LS (w : World) (NB : List Value) (gB cb gK ck Q WOs WPs : Nat) (vL : Value) (lh : List HdrT) (line : List CarT) (cv : List Value) (ve : Value) (E : List EndT) (vs : Value) (steps : List StepT) (W : World) (hl : List HdrT) (bl : List CarT) (kl : List Bool) (v8 : Value) (nh : List HdrT) (nxt : List CarT) : Prop where
  net : Bx W w.heap.size NB
  b : CR W (w.heap.size + 2) w.heap.size (fun k => k = gB) (.slice (some ⟨gB, 0, none⟩) Q cb) hl bl
  k : Kd.R Kd.bool 4 W (w.heap.size + 2) (fun k => k = gK) (.slice (some ⟨gK, 0, none⟩) Q ck) kl
  b0 : Below w.heap.size w W
  nx : CR W WOs w.heap.size (fun k => k ≠ WPs) v8 nh nxt
  l : CR W (w.heap.size + 2) w.heap.size (fun k => k ≠ gB ∧ k < WOs) vL lh line
  c : Bx W WPs cv
  e : Kd.R kEnd 67 W WPs (fun _ => True) ve E
  rs : Kd.R kStep 85 W w.heap.size (fun _ => True) vs steps
  ne : gB ≠ gK ∧ w.heap.size + 2 ≤ gB ∧ w.heap.size + 2 ≤ gK ∧ gB < WOs ∧ gK < WOs ∧ WOs ≤ WPs
section
variable {w W W1 : World} {NB cv : List Value} {gB cb gK ck Q WOs WPs : Nat} {vL ve vs v8 v1 : Value} {lh hl nh : List HdrT} {line bl nxt : List CarT} {E : List EndT} {steps : List StepT} {kl kl' : List Bool}
theorem LS.below (h : LS w NB gB cb gK ck Q WOs WPs vL lh line cv ve E vs steps W hl bl kl v8 nh nxt) (hb : Below W.heap.size W W1) : LS w NB gB cb gK ck Q WOs WPs vL lh line cv ve E vs steps W1 hl bl kl v8 nh nxt :=
  ⟨h.net.below hb, h.b.below hb, Kd.R_below h.k hb, below_more h.b0 hb, h.nx.below hb, h.l.below hb, h.c.below hb, Kd.R_below h.e hb, Kd.R_below h.rs hb, h.ne⟩
theorem LS.known (h : LS w NB gB cb gK ck Q WOs WPs vL lh line cv ve E vs steps W hl bl kl v8 nh nxt) (hk : Kd.R Kd.bool 4 W1 (w.heap.size + 2) (fun k => k = gK) (.slice (some ⟨gK, 0, none⟩) Q ck) kl') (hb : Below (w.heap.size + 2) W W1) (hg : W.grownBy W1 (some gK)) :
    LS w NB gB cb gK ck Q WOs WPs vL lh line cv ve E vs steps W1 hl bl kl' v8 nh nxt := by
  have hne := h.ne
  exact ⟨h.net.grownP hg (fun e => by injection e with e; omega), h.b.over h.k (by decide) (by decide) hg, hk, below_lw h.b0 hb (by omega), h.nx.over h.k (by decide) (by decide) hg, h.l.over h.k (by decide) (by decide) hg, h.c.grownP hg (fun e => by injection e with e; omega), Kd.R_over h.e h.k (by decide) hg, Kd.R_over h.rs h.k (by decide) hg, hne⟩
theorem LS.best (h : LS w NB gB cb gK ck Q WOs WPs vL lh line cv ve E vs steps W hl bl kl v8 nh nxt) {i : Nat} {x : CarT} {A : Option Addr} {c : Nat} (hi : i < Q) (ho : Kd.R kHdr 172 W1 (w.heap.size + 2) (fun k => k = gB) (.slice (some ⟨gB, 0, none⟩) Q cb) (hl.set i (hdrOf x A c))) (hb : Below (w.heap.size + 2) W W1) (hg : W.grownBy W1 (some gB)) (hx : Kd.R kStep 85 W w.heap.size (fun _ => True) (.slice A x.steps.length c) x.steps) :
    LS w NB gB cb gK ck Q WOs WPs vL lh line cv ve E vs steps W1 (hl.set i (hdrOf x A c)) (bl.set i x) kl v8 nh nxt := by
  have hne := h.ne
  have hty : ∀ g, some gB = some g → ∃ cells t, W.heap[g]? = some (.cells cells t (0, 0)) ∧ t ≠ 85 := fun g hg' => by
    injection hg' with hg'
    subst hg'
    obtain ⟨cells, hc⟩ := Kd.R_typed h.b.outer gB rfl
    exact ⟨cells, 172, hc, by decide⟩
  have hnx : CR W WOs w.heap.size (fun k => k ≠ WPs ∧ k ≠ gB) v8 nh nxt := h.nx.mono (fun k h1 _ h3 => ⟨h1, by omega⟩)
  exact ⟨h.net.grownP hg (fun e => by injection e with e; omega), h.b.put hi ho hg hx, Kd.R_over h.k h.b.outer (by decide) hg, below_lw h.b0 hb (by omega), (hnx.grown hg (fun k hk e => hk.2 (by injection e)) hty).mono (fun k h1 _ _ => h1.1), h.l.grown hg (fun k hk e => hk.1 (by injection e)) hty, h.c.grownP hg (fun e => by injection e with e; omega), Kd.R_over h.e h.b.outer (by decide) hg, Kd.R_over h.rs h.b.outer (by decide) hg, hne⟩
theorem LS.next (h : LS w NB gB cb gK ck Q WOs WPs vL lh line cv ve E vs steps W hl bl kl v8 nh nxt) {x : CarT} {A : Option Addr} {c : Nat} (ho : Kd.R kHdr 172 W1 WOs (fun k => k ≠ WPs) v1 (nh ++ [hdrOf x A c])) (hb : Below WOs W W1) (hg : W.grownBy W1 v8.ownBlock) (hx : Kd.R kStep 85 W w.heap.size (fun _ => True) (.slice A x.steps.length c) x.steps) :
    LS w NB gB cb gK ck Q WOs WPs vL lh line cv ve E vs steps W1 hl bl kl v1 (nh ++ [hdrOf x A c]) (nxt ++ [x]) := by
  have hne := h.ne
  have hbase : ∀ k, v8.ownBlock = some k → WOs ≤ k := Kd.R_base h.nx.outer
  have hty : ∀ g, v8.ownBlock = some g → ∃ cells t, W.heap[g]? = some (.cells cells t (0, 0)) ∧ t ≠ 85 := fun g hg' => by
    obtain ⟨cells, hc⟩ := Kd.R_typed h.nx.outer g hg'
    exact ⟨cells, 172, hc, by decide⟩
  exact ⟨h.net.grownP hg (fun e => by have := hbase _ e.symm; omega), h.b.grown hg (fun k hk e => by have := hbase _ e.symm; omega) hty, Kd.R_over h.k h.nx.outer (by decide) hg, below_lw h.b0 hb (by omega), h.nx.push hg hty ho hx, h.l.grown hg (fun k hk e => by have := hbase _ e.symm; omega) hty, h.c.grownP hg (fun e => h.nx.outer.1 _ e.symm rfl), Kd.R_over h.e h.nx.outer (by decide) hg, Kd.R_over h.rs h.nx.outer (by decide) hg, hne⟩
end
end Go.Proofs.Ytckcffjnffcjcaa
namespace Go.Proofs.Ytckcffjnffcjcaa
open Go.RowKit Go.Proofs.YtckcffjnffcjcaaW.PrintWords
theorem acrossJ_two (j : JointT) (q : Nat) : (acrossJ j q).length ≤ 2 := by
  unfold acrossJ
  split
  · simp
  · split
    · split <;> simp
    · split <;> simp
def zHdr : HdrT := (0, 0, 0, 0, (none, 0, 0))
theorem info172 : (Try.prog.info? 172).map (fun i => (i.zero, i.size, i.bytes)) = some (some (.agg #[.int .i64 0, .int .i64 0, .int .i64 0, .int .i64 0, .slice none 0 0]), 5, 56) := by kernel_rfl
theorem info4 : (Try.prog.info? 4).map (fun i => (i.zero, i.size, i.bytes)) = some (some (.bool false), 1, 1) := by kernel_rfl
theorem CR.zeros {W : World} {base sb : Nat} {ok : Nat → Prop} {v : Value} {k : Nat} (h : Kd.R kHdr 172 W base ok v (List.replicate k zHdr)) : CR W base sb ok v (List.replicate k zHdr) (List.replicate k ⟨⟨0, 0, 0⟩, 0, []⟩) := by
  refine ⟨h, by simp, fun i hi => ?_⟩
  have hi' : i < k := by simpa using hi
  refine ⟨none, 0, by simp [List.getD, List.getElem?_replicate, hi']; rfl, ?_⟩
  have e : (List.replicate k (⟨⟨0, 0, 0⟩, 0, []⟩ : CarT)).getD i default = ⟨⟨0, 0, 0⟩, 0, []⟩ := by simp [List.getD, List.getElem?_replicate, hi']
  rw [e]
  exact Kd.R_nil ..
theorem R_step1 (W : World) (x : StepT) {base g : Nat} (hg : g = W.heap.size) (hb : base ≤ W.heap.size) : kStep.R 85 (W.alloc (.cells #[.int .i64 x.piece, .int .i64 x.way] 85)) base (fun _ => True) (.slice (some ⟨g, 0, none⟩) 1 1) [x] := by
  subst hg
  exact R_lits kStep W 85 (xs := [x]) (inner := [.int .i64 x.piece, .int .i64 x.way]) (by
    have := (Reps.none (fun (x : StepT) c => ∀ w base ok, kStep.M w base ok x c) 2).snoc (p := x) (c := [.int .i64 x.piece, .int .i64 x.way]) (fun w base ok => kStep_mkM w base ok x) rfl
    exact this) (by simp) hb
theorem R_hdr1 (W : World) (x : HdrT) {base g : Nat} (hg : g = W.heap.size) (hb : base ≤ W.heap.size) : kHdr.R 172 (W.alloc (.cells (hdrVals x).toArray 172)) base (fun _ => True) (.slice (some ⟨g, 0, none⟩) 1 1) [x] := by
  subst hg
  exact R_lits kHdr W 172 (xs := [x]) (inner := hdrVals x) (by
    have := (Reps.none (fun (x : HdrT) c => ∀ w base ok, kHdr.M w base ok x c) 5).snoc (p := x) (c := hdrVals x) (fun w base ok => kHdr_mkM w base ok x) rfl
    exact this) (by simp) hb
theorem CR.one (W : World) (x : CarT) (st : StepT) (hx : x.steps = [st]) {base sb g g2 : Nat} (hg : g = W.heap.size) (hg2 : g2 = (W.alloc (.cells #[.int .i64 st.piece, .int .i64 st.way] 85)).heap.size) (hb : base ≤ W.heap.size) (hsb : sb ≤ W.heap.size) :
    CR ((W.alloc (.cells #[.int .i64 st.piece, .int .i64 st.way] 85)).alloc (.cells #[.int .i64 x.spot.piece, .int .i64 x.spot.at_, .int .i64 x.spot.way, .int .i64 x.far, .slice (some ⟨g, 0, none⟩) 1 1] 172)) base sb (fun _ => True) (.slice (some ⟨g2, 0, none⟩) 1 1) [hdrOf x (some ⟨g, 0, none⟩) 1] [x] := by
  have e : hdrVals (hdrOf x (some ⟨g, 0, none⟩) 1) = [.int .i64 x.spot.piece, .int .i64 x.spot.at_, .int .i64 x.spot.way, .int .i64 x.far, .slice (some ⟨g, 0, none⟩) 1 1] := by
    unfold hdrVals hdrOf encH; rw [hx]; rfl
  have h1 := R_hdr1 (W.alloc (.cells #[.int .i64 st.piece, .int .i64 st.way] 85)) (hdrOf x (some ⟨g, 0, none⟩) 1) (base := base) hg2 (by simp; omega)
  rw [e] at h1
  refine ⟨h1, rfl, fun i hi => ?_⟩
  obtain rfl : i = 0 := by simpa using hi
  refine ⟨some ⟨g, 0, none⟩, 1, rfl, ?_⟩
  show Kd.R kStep 85 _ sb (fun _ => True) (.slice (some ⟨g, 0, none⟩) x.steps.length 1) x.steps
  rw [hx]
  exact Kd.R_alloc (R_step1 W st hg hsb) _
theorem R_wide {α : Type} {d : Kd α} {e : Nat} {w : World} {base n c : Nat} {ok : Nat → Prop} {A : Option Addr} {xs : List α} (h : d.R e w base ok (.slice A n c) xs) (hp : 0 < xs.length) : base < w.heap.size := by
  obtain ⟨g, cap, _, h1, h2, _⟩ := Kd.R_form h hp
  omega
set_option maxRecDepth 100000 in
set_option maxHeartbeats 16000000 in
theorem l4from_any (n : NetT) (u : (Option Addr × Nat) × (Option Addr × Nat)) (s : SpotT) (w : World) (hr : RdNet 67 w u n) (hg : Good n) (hs : spotB n s = true) (h9 : n.pieces.length ≤ 9) :
    Calls Try.prog 144 #[.agg #[.slice u.1.1 n.pieces.length u.1.2, .slice u.2.1 n.joints.length u.2.2], .agg #[.int .i64 s.piece, .int .i64 s.at_, .int .i64 s.way]] w
      fun e w' => ∃ v hl fl, e = .returned v ∧ CR w' w.heap.size w.heap.size (fun _ => True) v hl fl ∧ FromOk n s fl ∧ Below w.heap.size w w' := by
  have HR := Aside0.mk hr
  have HG := Aside0.mk hg
  have HSP := Aside0.mk hs
  clear hr hg hs
  obtain ⟨⟨A0, c0⟩, ⟨A1, c1⟩⟩ := u
  obtain ⟨ap, aa, aw⟩ := s
  obtain ⟨W0, hW0, hN, hS, fb0, hz0⟩ := box2 w [.slice A0 n.pieces.length c0, .slice A1 n.joints.length c1] [.int .i64 ap, .int .i64 aa, .int .i64 aw] 35 38
  have fb := Aside0.mk fb0
  have HN := Aside0.mk hN
  have HS := Aside0.mk hS
  have HW := Aside0.mk hW0
  have HZ := Aside0.mk hz0
  clear hW0 hN hS fb0 hz0
  obtain ⟨Q, hQ⟩ : ∃ Q : Nat, Q = 2 * n.pieces.length := ⟨_, rfl⟩
  have hwQ : IntKind.i64.wrap (2 * (n.pieces.length : Int)) = (Q : Int) := by rw [wrap64 (by omega) (by omega), hQ]; push_cast; rfl
  have hQ18 : Q ≤ 18 := by omega
  have HQ := Aside0.mk hQ
  clear hQ
  go_enter Try.func144, Try.ntmps144
  go_wp2_with (first
    | ((with_reducible refine gate_dst (N := 24) rfl ?_); rw [← HW.out]; refine Kd.R_make kHdr _ 172 rfl (N := 24) rfl 169 _ _ rfl (Q : Int) rfl rfl Try.underlying169 (.agg #[.int .i64 0, .int .i64 0, .int .i64 0, .int .i64 0, .slice none 0 0]) 56 info172 rfl (by decide) (by decide) zHdr (ok := fun k => k = W0.heap.size) (okp := fun _ => False) (kHdr_mkM _ _ _ zHdr) (fun _ hk => hk.elim) rfl (by omega) (by simp only [Int.toNat_natCast]; omega) (Below.refl _ _) (Nat.le_refl _) ?_; intro v1 w1 ho hb hg hnew; rw [Int.toNat_natCast] at ho; have HO1 := Aside0.mk ho; have HB1 := Aside0.mk hb; clear ho hb hg hnew; obtain ⟨Ab, cb, hvb⟩ := Kd.R_slice HO1.out; rw [List.length_replicate] at hvb; subst hvb)
    | ((with_reducible refine gate_dst (N := 27) rfl ?_); refine Kd.R_make Kd.bool _ 4 rfl (N := 27) rfl 221 _ _ rfl (Q : Int) rfl rfl Try.underlying221 (.bool false) 1 info4 rfl (by decide) (by decide) false (ok := fun k => k = w1.heap.size) (okp := fun _ => False) rfl (fun _ hk => hk.elim) rfl (by omega) (by simp only [Int.toNat_natCast]; omega) (Below.refl _ _) (Nat.le_refl _) ?_; intro v2 w2 ho hb hg hnew; rw [Int.toNat_natCast] at ho; have HO2 := Aside0.mk ho; have HB2 := Aside0.mk hb; clear ho hb hg hnew))
  have FB2 := Aside0.mk (below_more fb.out (below_more HB1.out HB2.out))
  have N2 := Aside0.mk (HN.out.below (below_more HB1.out HB2.out))
  have S2 := Aside0.mk (HS.out.below (below_more HB1.out HB2.out))
  have R1 := Aside0.mk (Kd.R_below HO1.out HB2.out)
  have hP : 0 < Q := by
    have h1 := spotB_iff.1 HSP.out
    have h2 := HQ.out
    simp only at h1
    omega
  obtain ⟨gB, cB, eB, _, hgB, _⟩ := Kd.R_form R1.out (by simp; exact hP)
  obtain ⟨gK, cK, eK, _, hgK, _⟩ := Kd.R_form HO2.out (by simp; exact hP)
  rw [List.length_replicate] at eB eK
  injection eB with eB1 _ eB2
  subst eB1
  subst eB2
  subst eK
  have hB0 : gB = W0.heap.size := R1.out.1 gB rfl
  have hK0 : gK = w1.heap.size := HO2.out.1 gK rfl
  have FS2 : Aside0 (FS n ⟨ap, aa, aw⟩ w [.slice A0 n.pieces.length c0, .slice A1 n.joints.length c1] gB cb gK cK Q w2 (fun _ => none) (List.replicate Q ⟨⟨0, 0, 0⟩, 0, []⟩) (List.replicate Q false) (List.replicate Q zHdr)) := ⟨by
    have h1 := R1.out
    have h2 := HO2.out
    rw [← hB0] at h1
    rw [← hK0] at h2
    refine ⟨N2.out, CR.zeros (Kd.R_lower h1 (by have := HZ.out; omega)), Kd.R_lower h2 (by have := HZ.out; have := HB1.out.size; omega), ?_, FB2.out⟩
    have := FromRel.start n ⟨ap, aa, aw⟩ ⟨⟨0, 0, 0⟩, 0, []⟩
    rwa [← HQ.out] at this⟩
  have HGB := Aside0.mk hgB
  clear HO1 R1 HO2 hB0 hK0 hgB hgK
  have HS0 : Aside0 (∀ W, Below w2.heap.size w2 W → (Below w2.heap.size w2 W ∧ W.cell? ⟨w.heap.size + 1, 0, none⟩ = some (.int .i64 ap) ∧ W.cell? ⟨w.heap.size + 1, 1, none⟩ = some (.int .i64 aa) ∧ W.cell? ⟨w.heap.size + 1, 2, none⟩ = some (.int .i64 aw))) := ⟨fun W hb => ⟨hb, (S2.out.below hb).c 0 _ rfl, (S2.out.below hb).c 1 _ rfl, (S2.out.below hb).c 2 _ rfl⟩⟩
  go_cut [7] (fun s7 W => ∃ lv hl, s7 = lv ∧ Aside0 (CR W w2.heap.size w.heap.size (fun _ => True) lv hl [carOf n ⟨ap, aa, aw⟩ []]) ∧ Aside0 (Below w2.heap.size w2 W))
  case first =>
    go_region_held3 (fun W => Below w2.heap.size w2 W ∧ W.cell? ⟨w.heap.size + 1, 0, none⟩ = some (.int .i64 ap) ∧ W.cell? ⟨w.heap.size + 1, 1, none⟩ = some (.int .i64 aa) ∧ W.cell? ⟨w.heap.size + 1, 2, none⟩ = some (.int .i64 aw))
      (first | (with_reducible assumption) | (with_reducible exact HS0.out _ (by with_reducible assumption)) | (with_reducible exact HS0.out _ (Below.drew (Below.refl _ _))) | (with_reducible exact HS0.out _ (by repeat (first | (with_reducible assumption) | (with_reducible refine below_alloc ?_ _)))))
      (first
        | (go_at_call 152; go_split_ands; (with_reducible refine Calls.mono (l4step_any ⟨ap, aa, aw⟩ _) ?_); rintro e w5 ⟨rfl, b5⟩; have q5 : Below w2.heap.size w2 w5 := below_more (by assumption) b5; have Q5 := Aside0.mk q5; clear b5))
    all_goals
      try go_wp2_with fail
      go_meet
      case rel =>
        exact ⟨_, _, rfl, ⟨CR.one _ (carOf n ⟨ap, aa, aw⟩ []) ⟨ap, aw⟩ rfl rfl (by simp) Q5.out.size (by have h1 := FB2.out.size; have h2 := Q5.out.size; omega)⟩, ⟨below_alloc (below_alloc Q5.out _) _⟩⟩
  case rest =>
    obtain ⟨lv, hl0, rfl, HL0, BL0⟩ := hcut
    obtain ⟨W3, hW3⟩ : ∃ W3, W3 = wc := ⟨_, rfl⟩
    subst hW3
    have FS3 := Aside0.mk (FS2.out.below BL0.out)
    have HL3 : Aside0 (CR W3 (w.heap.size + 2) w.heap.size (fun k => k ≠ gB) _ hl0 ([([] : List StepT)].map (carOf n ⟨ap, aa, aw⟩))) := ⟨(HL0.out.mono (fun k _ _ hk => by have := HGB.out; show k ≠ gB; omega)).lower (by have h1 := HZ.out; have h2 := HB1.out.size; have h3 := HB2.out.size; omega)⟩
    clear HL0 FS2
    go_wp2_with fail
    go_loopw [7] (fun v7 wr => ∃ (r : Nat) (best : BestT) (line : List (List StepT)) (lh hl : List HdrT) (bl : List CarT) (kl : List Bool), Aside0 (FS n ⟨ap, aa, aw⟩ w [.slice A0 n.pieces.length c0, .slice A1 n.joints.length c1] gB cb gK cK Q wr best bl kl hl) ∧ Aside0 (CR wr (w.heap.size + 2) w.heap.size (fun k => k ≠ gB) v7 lh (line.map (carOf n ⟨ap, aa, aw⟩))) ∧ Aside0 (InvR n (stepOf ⟨ap, aa, aw⟩) r best line) ∧ r ≤ Q + 1 ∧ Aside0 (line.length ≤ 2 ^ r)) (fun v7 wr => lineM Q v7 wr)
    case atStart => exact ⟨0, fun _ => none, [[]], hl0, _, _, _, FS3, HL3, ⟨InvR.start n _⟩, by omega, ⟨by simp⟩⟩
    case round =>
      obtain ⟨r, best, line, lh, hl, bl, kl, HF, HL, HI, hr, HLN⟩ := hrel
      obtain ⟨LA, lc, eL⟩ := Kd.R_slice HL.out.outer
      rw [HL.out.len, List.length_map] at eL
      subst eL
      obtain ⟨WO, hWO⟩ : ∃ WO : World, WO = wr := ⟨_, rfl⟩
      subst hWO
      by_cases hne : line = []
      · subst hne
        have HFR := HF.out.rel
        have hbl : bl.length = Q := by rw [HFR.lb, HQ.out]
        have HBL := Aside0.mk hbl
        clear hbl HFR
        go_wp2_with fail
        go_loopw [131] (fun v131 wr => ∃ (i : Nat) (hl2 : List HdrT) (bl2 : List CarT), v131 = .int .i64 (i : Int) ∧ i ≤ Q ∧ Aside0 (CR wr (w.heap.size + 2) w.heap.size (fun k => k = gB) (.slice (some ⟨gB, 0, none⟩) Q cb) hl2 bl2) ∧ Aside0 (∀ p, p < i → bl2.getD p default = endCar bl kl p) ∧ Aside0 (∀ p, i ≤ p → bl2.getD p default = bl.getD p default) ∧ Aside0 (bl2.length = Q) ∧ Aside0 (Kd.R Kd.bool 4 wr (w.heap.size + 2) (fun k => k = gK) (.slice (some ⟨gK, 0, none⟩) Q cK) kl) ∧ Aside0 (Below w.heap.size w wr)) (fun v131 _ => Q - (intOf v131).toNat)
        case atStart => exact ⟨0, hl, bl, rfl, Nat.zero_le _, ⟨HF.out.b⟩, ⟨fun p hp => by omega⟩, ⟨fun p _ => rfl⟩, HBL, ⟨HF.out.k⟩, ⟨HF.out.b0⟩⟩
        case round =>
          obtain ⟨i, hl2, bl2, rfl, hi, HB2, HD2, HK2, HLB, HKN, HBW⟩ := hrel
          by_cases hlt : i < Q
          · obtain ⟨adk, ek, y0⟩ := at_Bool (Kd.R_reads' HKN.out).2.2 i (by have := (Kd.R_reads' HKN.out).1; omega)
            injection ek with ek
            subst ek
            have hi0 : (0 : Int) ≤ (i : Int) := by omega
            have hi1 : (i : Int) < (Q : Int) := by omega
            obtain ⟨kb, hkb⟩ : ∃ b, b = kl.getD i false := ⟨_, rfl⟩
            rw [← hkb, add_lit] at y0
            have HKB := Aside0.mk hkb.symm
            clear hkb
            cases kb with
            | true =>
              go_wp2_with fail
              go_roundw
              case rel =>
                refine ⟨i + 1, hl2, bl2, by go_num, by omega, HB2, ⟨fun p hp => ?_⟩, ⟨fun p hp => HK2.out p (by omega)⟩, HLB, HKN, HBW⟩
                by_cases hpi : p < i
                · exact HD2.out p hpi
                · obtain rfl : p = i := by omega
                  rw [HK2.out p (Nat.le_refl _)]
                  unfold endCar
                  rw [HKB.out]; rfl
              case measure => simp [intOf]; omega
            | false =>
              obtain ⟨ad, c0, B, d, ev, x0, x1, x2, x3, x4, _⟩ := HB2.out.at_ (i := i) (by have := HLB.out; omega)
              injection ev with ev1 ev2 ev3
              clear ev2 ev3
              injection ev1 with ev1
              subst ev1
              obtain ⟨hl3, HB3, HG3, fz3⟩ := HB2.out.setFar hlt (-1)
              have HLT := Aside0.mk HF.out.ltB
              have gl := Kd.R_lt HB2.out.outer gB rfl
              have HB3' := Aside0.mk HB3
              have HG3' := Aside0.mk HG3
              rw [add_lit] at x3
              clear HB3 HG3 x0 x1 x2 x4
              go_wp2_with fail
              go_roundw
              case rel =>
                refine ⟨i + 1, hl3, _, by go_num, by omega, HB3', ⟨fun p hp => ?_⟩, ⟨fun p hp => ?_⟩, ⟨by rw [List.length_set]; exact HLB.out⟩, ⟨Kd.R_grown HKN.out HG3'.out (fun k hk he => by
                  injection he with he
                  have hk : k = gK := hk
                  exact HF.out.ne (he.symm.trans hk))⟩, ⟨below_set HBW.out (show w.heap.size ≤ gB by have := HLT.out; omega)⟩⟩
                · rw [getD_set_all _ _ _ _ _ (by have := HLB.out; omega)]
                  by_cases hpi : p < i
                  · rw [if_neg (by omega)]
                    exact HD2.out p hpi
                  · obtain rfl : p = i := by omega
                    rw [if_pos rfl, HK2.out p (Nat.le_refl _)]
                    unfold endCar
                    rw [HKB.out]; rfl
                · rw [getD_set_all _ _ _ _ _ (by have := HLB.out; omega), if_neg (by omega)]
                  exact HK2.out p (by omega)
              case measure => simp [intOf]; omega
          · have HOK := Aside0.mk (HF.out.rel.stop HG.out HSP.out HI.out (by have h1 := HLB.out; have h2 := HQ.out; omega) (fun p hp => HD2.out p (by have h2 := HQ.out; omega)))
            have HC := Aside0.mk ((HB2.out.mono (ok' := fun _ => True) (fun _ _ _ _ => trivial)).lower (base' := w.heap.size) (by omega))
            have hge : ¬ (i : Int) < (Q : Int) := by omega
            go_wp2_with fail
            go_ret
            exact ⟨_, rfl, _, _, HC.out, HOK.out, HBW.out⟩
      · have hlp : 0 < line.length := List.length_pos_iff.2 hne
        have hlp' : (0 : Int) < (line.length : Int) := by omega
        have HNE := Aside0.mk hne
        have HRQ := Aside0.mk (show r ≤ Q by have := HI.out.bound HG.out (stepOf_ok HSP.out) hne; have h2 := HQ.out; omega)
        have HLM := Aside0.mk (show line.length ≤ 524288 by
          have h1 := HLN.out
          have h2 := HRQ.out
          have h3 : 2 ^ r ≤ 2 ^ 18 := Nat.pow_le_pow_right (by omega) (by omega)
          omega)
        have hlm := HLM.out
        clear hne
        go_wp2_with fail
        go_loopw [8, 39] (fun v8 v39 wr => ∃ (a : Nat) (nh hl : List HdrT) (bl : List CarT) (kl : List Bool), v39 = .int .i64 (a : Int) ∧ a ≤ line.length ∧ Aside0 (FS n ⟨ap, aa, aw⟩ w [.slice A0 n.pieces.length c0, .slice A1 n.joints.length c1] gB cb gK cK Q wr (lineSt n ⟨ap, aa, aw⟩ best line a).1 bl kl hl) ∧ Aside0 (CR wr WO.heap.size w.heap.size (fun _ => True) v8 nh ((lineSt n ⟨ap, aa, aw⟩ best line a).2.map (carOf n ⟨ap, aa, aw⟩))) ∧ Aside0 (CR wr (w.heap.size + 2) w.heap.size (fun k => k ≠ gB ∧ k < WO.heap.size) (.slice LA line.length lc) lh (line.map (carOf n ⟨ap, aa, aw⟩))) ∧ Aside0 ((lineSt n ⟨ap, aa, aw⟩ best line a).2.length ≤ 2 * a) ∧ WO.heap.size ≤ wr.heap.size) (fun _ v39 _ => line.length - (intOf v39).toNat)
        case atStart => exact ⟨0, [], _, _, _, rfl, Nat.zero_le _, HF, ⟨CR.nil _ _ _ _⟩, ⟨HL.out.mono (fun k h1 h2 _ => ⟨h1, h2⟩)⟩, ⟨Nat.le_refl _⟩, Nat.le_refl _⟩
        case round =>
          obtain ⟨a, nh, hl2, bl2, kl2, rfl, ha, HF2, HN2, HL2, HNL, hsz⟩ := hrel
          obtain ⟨NA, nc, eN⟩ := Kd.R_slice HN2.out.outer
          rw [HN2.out.len, List.length_map] at eN
          subst eN
          by_cases hlt : a < line.length
          · obtain ⟨WP, hWP⟩ : ∃ WP : World, WP = wr := ⟨_, rfl⟩
            subst hWP
            obtain ⟨c, hc⟩ : ∃ c, c = line.getD a default := ⟨_, rfl⟩
            have hcm : c ∈ line := by rw [hc]; exact getD_mem line a hlt
            obtain ⟨hcf, hcl, hcn⟩ := HI.out.line_ c hcm
            obtain ⟨hsw, hsb⟩ := spotW_step HG.out HSP.out hcf
            have hfw := farW_bd HG.out HSP.out hcf
            obtain ⟨ad, cl0, B, d, eL, x0, x1, x2, x3, x4, hRS⟩ := HL2.out.at_ (i := a) (by rw [List.length_map]; exact hlt)
            injection eL with eL1 eL2 eL3
            clear eL2 eL3
            subst eL1
            have ecar : (line.map (carOf n ⟨ap, aa, aw⟩)).getD a default = carOf n ⟨ap, aa, aw⟩ c := by
              rw [hc]
              simp [List.getD, hlt]
            rw [ecar] at x0 x1 x2 x3 x4 hRS
            obtain ⟨⟨xp, xa, xw⟩, hxs⟩ : ∃ x, x = spotW n ⟨ap, aa, aw⟩ c := ⟨_, rfl⟩
            obtain ⟨xf, hxf⟩ : ∃ f, f = farW n ⟨ap, aa, aw⟩ c := ⟨_, rfl⟩
            simp only [carOf] at x0 x1 x2 x3 x4 hRS
            rw [← hxs] at x0 x1 x2 hsw hsb
            simp only at x0 x1 x2
            rw [← hxf] at x3 hfw
            rw [List.length_cons] at x4
            have HCM := Aside0.mk hcm
            have HCF := Aside0.mk hcf
            have HCL := Aside0.mk hcl
            have HSW := Aside0.mk hsw
            have HSB := Aside0.mk hsb
            have HFW := Aside0.mk hfw
            have HXS := Aside0.mk hxs
            have HXF := Aside0.mk hxf
            have HCE := Aside0.mk hc
            have RSC := Aside0.mk hRS
            have ha0 : (0 : Int) ≤ (a : Int) := by omega
            have ha1 : (a : Int) < (line.length : Int) := by omega
            have hle := lookS_ok (stepOf_ok hsb)
            obtain ⟨⟨hp, hs2⟩, hh⟩ : ∃ e, e = headE ⟨xp, xa, xw⟩ := ⟨_, rfl⟩
            have HHV : Aside0 ((Value.agg #[.int .i64 (headE ⟨xp, xa, xw⟩).piece, .int .i64 (headE ⟨xp, xa, xw⟩).side]) = (Value.agg #[.int .i64 hp, .int .i64 hs2])) := ⟨by rw [← hh]⟩
            have hee : endB n ⟨hp, hs2⟩ = true := by rw [hh]; exact headE_ok hsb
            obtain ⟨ia, qa, hata⟩ := HG.out.at_ hee
            have HAT := Aside0.mk hata
            have HHE := Aside0.mk (show (⟨hp, hs2⟩ : EndT) = lookS (lastS (stepOf ⟨ap, aa, aw⟩) c) by rw [hh, ← hsw]; rfl)
            clear hc hcm hcf hcl hcn hsw hsb hfw hxs hxf hRS ecar hle hh hee hata
            obtain ⟨W8, hW8⟩ : ∃ W8, W8 = WP.alloc (.cells #[.int .i64 xp, .int .i64 xa, .int .i64 xw, .int .i64 xf, .slice B (c.length + 1) d] 172) := ⟨_, rfl⟩
            have C8 : Aside0 (Bx W8 WP.heap.size [.int .i64 xp, .int .i64 xa, .int .i64 xw, .int .i64 xf, .slice B (c.length + 1) d]) := ⟨by rw [hW8]; exact Bx.new WP _ 172⟩
            have Q8 : Aside0 (Below WP.heap.size WP W8) := ⟨by rw [hW8]; exact below_alloc (Below.refl _ _) _⟩
            have F8 := Aside0.mk (HF2.out.below Q8.out)
            have HW8 := Aside0.mk hW8
            clear hW8
            go_wp2_with fail
            rw [← HW8.out]
            clear x0 x1 x2 x3 x4
            have HS8 : Aside0 (∀ W, Below W8.heap.size W8 W → (Below W8.heap.size W8 W ∧ W.cell? ⟨w.heap.size, 0, none⟩ = some (.slice A0 n.pieces.length c0) ∧ W.cell? ⟨w.heap.size, 1, none⟩ = some (.slice A1 n.joints.length c1) ∧ W.cell? ⟨WP.heap.size, 0, none⟩ = some (.int .i64 xp) ∧ W.cell? ⟨WP.heap.size, 1, none⟩ = some (.int .i64 xa) ∧ W.cell? ⟨WP.heap.size, 2, none⟩ = some (.int .i64 xw))) := ⟨fun W hb => ⟨hb, (F8.out.net.below hb).c 0 _ rfl, (F8.out.net.below hb).c 1 _ rfl, (C8.out.below hb).c 0 _ rfl, (C8.out.below hb).c 1 _ rfl, (C8.out.below hb).c 2 _ rfl⟩⟩
            go_cut [11, 12] (fun s11 s12 W => s11 = .int .i64 (ia : Int) ∧ s12 = .int .i64 (qa : Int) ∧ Aside0 (Below W8.heap.size W8 W))
            case first =>
              go_region_held3 (fun W => Below W8.heap.size W8 W ∧ W.cell? ⟨w.heap.size, 0, none⟩ = some (.slice A0 n.pieces.length c0) ∧ W.cell? ⟨w.heap.size, 1, none⟩ = some (.slice A1 n.joints.length c1) ∧ W.cell? ⟨WP.heap.size, 0, none⟩ = some (.int .i64 xp) ∧ W.cell? ⟨WP.heap.size, 1, none⟩ = some (.int .i64 xa) ∧ W.cell? ⟨WP.heap.size, 2, none⟩ = some (.int .i64 xw))
                (first | (with_reducible assumption) | (with_reducible exact HS8.out _ (by with_reducible assumption)) | (with_reducible exact HS8.out _ (Below.drew (Below.refl _ _))))
                (first
                  | (go_at_call 157; go_split_ands; (with_reducible refine Calls.mono (l3head_any ⟨xp, xa, xw⟩ _) ?_); rintro e w9 ⟨rfl, b9⟩; rw [HHV.out]; have q9 : Below W8.heap.size W8 w9 := below_more (by assumption) b9; clear b9)
                  | (go_at_call 133; go_split_ands; (with_reducible refine Calls.mono (l1at_any n ((A0, c0), (A1, c1)) ⟨hp, hs2⟩ _ (HR.out.below (below_more F8.out.b0 (by assumption)))) ?_); rintro e w10 ⟨rfl, b10⟩; rw [HAT.out.eq]; have q10 : Below W8.heap.size W8 w10 := below_more (by assumption) b10; have Q10 := Aside0.mk q10; clear b10))
              all_goals
                try go_wp2_with fail
                go_meet
                case rel => exact ⟨rfl, rfl, Q10⟩
            case rest =>
              obtain ⟨rfl, rfl, Q10⟩ := hcut
              obtain ⟨W10, hW10⟩ : ∃ W10, W10 = wc := ⟨_, rfl⟩
              subst hW10
              have Q10' := Aside0.mk (below_more Q8.out Q10.out)
              have F10 := Aside0.mk (F8.out.below Q10.out)
              have C10 := Aside0.mk (C8.out.below Q10.out)
              have hia := HAT.out.hi
              obtain ⟨hk1', hk2', hk3', _⟩ := HG.out.kindAt hia
              have hqa := HAT.out.hq
              obtain ⟨adj, A2, c2, ej, j0, j1, j2, m0, g0⟩ := at_Joint (HR.out.below F10.out.b0).2.1 ia hia
              simp only at ej
              subst ej
              obtain ⟨j, hj⟩ : ∃ j, j = n.joints.getD ia default := ⟨_, rfl⟩
              rw [← hj] at j0 j1 j2 m0 g0 hk1' hk2' hk3' hqa
              have HJ := Aside0.mk hj
              have HCJ := Aside0.mk g0
              clear hj m0 g0
              have hi0 : (0 : Int) ≤ (ia : Int) := by omega
              have hi1 : (ia : Int) < (n.joints.length : Int) := by omega
              have n1 := F10.out.net.c 1 _ rfl
              go_wp2_with fail
              (with_reducible refine Calls.mono (l1across_any j A2 c2 qa _ HCJ.out hk3' hqa hk2') ?_)
              rintro e w11 ⟨v11, rfl, r11, b11⟩
              obtain ⟨E, hE⟩ : ∃ E, E = acrossJ j qa := ⟨_, rfl⟩
              rw [← hE] at r11
              have HE := Aside0.mk (show E = acrossE n (lookS (lastS (stepOf ⟨ap, aa, aw⟩) c)) by rw [hE, ← HHE.out]; unfold acrossE; rw [HAT.out.j, HAT.out.k, HJ.out])
              have HE2 := Aside0.mk (show E.length ≤ 2 by rw [hE]; exact acrossJ_two j qa)
              obtain ⟨AE, cE, eE⟩ := Kd.R_slice r11
              subst eE
              have hmE := HE2.out
              have Q11 := Aside0.mk (below_more Q10'.out b11)
              have F11 := Aside0.mk (F10.out.below b11)
              have C11 := Aside0.mk (C10.out.below b11)
              have RE := Aside0.mk (Kd.R_lower r11 (show WP.heap.size ≤ W10.heap.size from Q10'.out.size))
              have N11 := Aside0.mk ((HN2.out.mono (ok' := fun k => k ≠ WP.heap.size) (fun k _ h2 _ => by show k ≠ WP.heap.size; omega)).below Q11.out)
              have L11 := Aside0.mk (HL2.out.below Q11.out)
              have hszC := C11.out.lt
              clear b11 r11 hE n1 j0 j1 j2
              go_wp2_with fail
              go_loopw [8, 59] (fun v8 v59 wr => ∃ (q : Nat) (nh hl : List HdrT) (bl : List CarT) (kl : List Bool), v59 = .int .i64 (q : Int) ∧ q ≤ E.length ∧ Aside0 (FS n ⟨ap, aa, aw⟩ w [.slice A0 n.pieces.length c0, .slice (some adj) n.joints.length c1] gB cb gK cK Q wr (endSt n c (lineSt n ⟨ap, aa, aw⟩ best line a) E q).1 bl kl hl) ∧ Aside0 (CR wr WO.heap.size w.heap.size (fun k => k ≠ WP.heap.size) v8 nh ((endSt n c (lineSt n ⟨ap, aa, aw⟩ best line a) E q).2.map (carOf n ⟨ap, aa, aw⟩))) ∧ Aside0 (CR wr (w.heap.size + 2) w.heap.size (fun k => k ≠ gB ∧ k < WO.heap.size) (.slice (some ad) line.length lc) lh (line.map (carOf n ⟨ap, aa, aw⟩))) ∧ Aside0 (Bx wr WP.heap.size [.int .i64 xp, .int .i64 xa, .int .i64 xw, .int .i64 xf, .slice B (c.length + 1) d]) ∧ Aside0 (Kd.R kEnd 67 wr WP.heap.size (fun _ => True) (.slice AE E.length cE) E) ∧ Aside0 (Kd.R kStep 85 wr w.heap.size (fun _ => True) (.slice B (c.length + 1) d) (stepOf ⟨ap, aa, aw⟩ :: c)) ∧ WP.heap.size < wr.heap.size) (fun _ v59 _ => E.length - (intOf v59).toNat)
              case atStart => exact ⟨0, nh, _, _, _, rfl, Nat.zero_le _, F11, N11, L11, C11, RE, ⟨Kd.R_below RSC.out Q11.out⟩, hszC⟩
              case round =>
                obtain ⟨q, nh3, hl3, bl3, kl3, rfl, hq, F3, N3, L3, C3, E3, RS3, hsz3⟩ := hrel
                obtain ⟨NA3, nc3, eN3⟩ := Kd.R_slice N3.out.outer
                rw [N3.out.len, List.length_map] at eN3
                subst eN3
                by_cases hlt3 : q < E.length
                · obtain ⟨WR, hWR⟩ : ∃ WR : World, WR = wr := ⟨_, rfl⟩
                  subst hWR
                  obtain ⟨adE, eE1, z0, z1⟩ := at_End (Kd.R_reads' E3.out).2.2 q hlt3
                  subst eE1
                  have hem := getD_mem E q hlt3
                  rw [HE.out] at hem
                  have hee := (HG.out.across (lookS_ok (by rw [← HSW.out]; exact stepOf_ok HSB.out)) hem).1
                  rw [← HE.out] at hee
                  obtain ⟨⟨ep, es⟩, he⟩ : ∃ e, e = E.getD q default := ⟨_, rfl⟩
                  rw [← he] at z0 z1 hee
                  have HEQ := Aside0.mk he
                  have HEE := Aside0.mk hee
                  have hb1 := endB_iff.1 hee
                  simp only at hb1
                  have HEB := Aside0.mk hb1
                  have hxb := spotB_iff.1 HSB.out
                  have hlen := HG.out.len hxb.1 hxb.2.1
                  have hrm := roomS_bd HG.out HSB.out
                  simp only at hxb hlen
                  have HXB := Aside0.mk hxb
                  have HLN2 := Aside0.mk hlen
                  obtain ⟨rm, hrm1⟩ : ∃ r, r = roomS n ⟨xp, xa, xw⟩ := ⟨_, rfl⟩
                  rw [← hrm1] at hrm
                  have HRM := Aside0.mk hrm1
                  obtain ⟨⟨np, na, nw⟩, hen⟩ : ∃ e, e = enterS n ⟨ep, es⟩ := ⟨_, rfl⟩
                  have HEV : Aside0 ((Value.agg #[.int .i64 (enterS n ⟨ep, es⟩).piece, .int .i64 (enterS n ⟨ep, es⟩).at_, .int .i64 (enterS n ⟨ep, es⟩).way]) = (Value.agg #[.int .i64 np, .int .i64 na, .int .i64 nw])) := ⟨by rw [← hen]⟩
                  have HEN := Aside0.mk hen
                  have hcl18 : c.length ≤ 18 := by have h1 := HCL.out; have h2 := HRQ.out; omega
                  obtain ⟨nf, hnf⟩ : ∃ f, f = xf + rm := ⟨_, rfl⟩
                  have hwf : IntKind.i64.wrap (xf + rm) = nf := by rw [hnf]; have h1 := HFW.out; exact wrap64 (by omega) (by omega)
                  have HNF := Aside0.mk hnf
                  have hq0 : (0 : Int) ≤ (q : Int) := by omega
                  have hq1 : (q : Int) < (E.length : Int) := by omega
                  clear hem he hee hb1 hxb hlen hrm hrm1 hen hnf
                  obtain ⟨W12, hW12⟩ : ∃ W12, W12 = WR.alloc (.cells #[.int .i64 ep, .int .i64 es] 67) := ⟨_, rfl⟩
                  have Q12 : Aside0 (Below WR.heap.size WR W12) := ⟨by rw [hW12]; exact below_alloc (Below.refl _ _) _⟩
                  have E12 : Aside0 (Bx W12 WR.heap.size [.int .i64 ep, .int .i64 es]) := ⟨by rw [hW12]; exact Bx.new WR _ 67⟩
                  have F12 := Aside0.mk (F3.out.below Q12.out)
                  have C12 := Aside0.mk (C3.out.below Q12.out)
                  have HW12 := Aside0.mk hW12
                  clear hW12
                  go_wp2_with fail
                  rw [← HW12.out]
                  clear z0 z1
                  have HShX : Aside0 (∀ W, Below W12.heap.size W12 W → (Below W12.heap.size W12 W ∧ W.cell? ⟨w.heap.size, 0, none⟩ = some (.slice A0 n.pieces.length c0) ∧ W.cell? ⟨w.heap.size, 1, none⟩ = some (.slice (some adj) n.joints.length c1) ∧ W.cell? ⟨WR.heap.size, 0, none⟩ = some (.int .i64 ep) ∧ W.cell? ⟨WR.heap.size, 1, none⟩ = some (.int .i64 es) ∧ W.cell? ⟨WP.heap.size, 0, none⟩ = some (.int .i64 xp) ∧ W.cell? ⟨WP.heap.size, 1, none⟩ = some (.int .i64 xa) ∧ W.cell? ⟨WP.heap.size, 2, none⟩ = some (.int .i64 xw) ∧ W.cell? ⟨WP.heap.size, 3, none⟩ = some (.int .i64 xf))) := ⟨fun W hb => ⟨hb, (F12.out.net.below hb).c 0 _ rfl, (F12.out.net.below hb).c 1 _ rfl, (E12.out.below hb).c 0 _ rfl, (E12.out.below hb).c 1 _ rfl, (C12.out.below hb).c 0 _ rfl, (C12.out.below hb).c 1 _ rfl, (C12.out.below hb).c 2 _ rfl, (C12.out.below hb).c 3 _ rfl⟩⟩
                  go_cut [15] (fun sv W => ∃ bn, sv = .pointer (some ⟨bn, 0, none⟩) ∧ Aside0 (Below W12.heap.size W12 W) ∧ Aside0 (Bx W bn [.int .i64 np, .int .i64 na, .int .i64 nw, .int .i64 nf, .slice none 0 0]) ∧ Aside0 (W12.heap.size ≤ bn))
                  case first =>
                    go_region_held3 (fun W => Below W12.heap.size W12 W ∧ W.cell? ⟨w.heap.size, 0, none⟩ = some (.slice A0 n.pieces.length c0) ∧ W.cell? ⟨w.heap.size, 1, none⟩ = some (.slice (some adj) n.joints.length c1) ∧ W.cell? ⟨WR.heap.size, 0, none⟩ = some (.int .i64 ep) ∧ W.cell? ⟨WR.heap.size, 1, none⟩ = some (.int .i64 es) ∧ W.cell? ⟨WP.heap.size, 0, none⟩ = some (.int .i64 xp) ∧ W.cell? ⟨WP.heap.size, 1, none⟩ = some (.int .i64 xa) ∧ W.cell? ⟨WP.heap.size, 2, none⟩ = some (.int .i64 xw) ∧ W.cell? ⟨WP.heap.size, 3, none⟩ = some (.int .i64 xf))
                      (first | (with_reducible assumption) | (with_reducible exact HShX.out _ (by with_reducible assumption)) | (with_reducible exact HShX.out _ (by repeat (first | (with_reducible assumption) | (with_reducible refine below_set ?_ (Below.size (by with_reducible assumption))) | (with_reducible refine below_set ?_ (Nat.le_refl _)) | (with_reducible refine below_set ?_ (by omega)) | (with_reducible refine below_alloc ?_ _) | (with_reducible exact Below.refl _ _) | (with_reducible refine below_drew ?_)))))
                      (first
                        | (go_at_call 143; go_split_ands; (with_reducible refine Calls.mono (l3enter_any n ((A0, c0), (some adj, c1)) ⟨ep, es⟩ _ (HR.out.below (below_more F12.out.b0 (by assumption))) (by have := HEB.out; simp only; omega) (by have := HEB.out; simp only; omega)) ?_); rintro e hXw0 ⟨rfl, b3⟩; rw [HEV.out]; have hXq0 : Below W12.heap.size W12 hXw0 := below_more (by assumption) b3; have hXz0 := hXq0.size; (first | (with_reducible have hXX0 := Aside0.mk ((Bx.new _ [.int .i64 0, .int .i64 0, .int .i64 0, .int .i64 0, .slice none 0 0] 172).below b3)) | (with_reducible have hXX0 := Aside0.mk ((Bx.drew (Bx.new _ [.int .i64 0, .int .i64 0, .int .i64 0, .int .i64 0, .slice none 0 0] 172)).below b3)) | skip); have hXQ0 := Aside0.mk hXq0; clear b3)
                        | (go_at_call 158; go_split_ands; (with_reducible refine Calls.mono (l3room_any n ((A0, c0), (some adj, c1)) ⟨xp, xa, xw⟩ _ (HR.out.below (below_more F12.out.b0 (by assumption))) (by have := HXB.out; simp only; omega) (by have := HXB.out; simp only; omega) (by have := HXB.out; simp only; omega) (by have := HXB.out; simp only; omega) (by have := HLN2.out; simp only; omega)) ?_); rintro e hXw1 ⟨rfl, b3⟩; rw [← HRM.out]; have hXq1 : Below W12.heap.size W12 hXw1 := below_more (by assumption) b3; have hXz1 := hXq1.size; (first | (with_reducible have hXX1 := Aside0.mk (hXX0.out.below b3)) | (with_reducible have hXX1 := Aside0.mk ((Bx.new _ [.int .i64 0, .int .i64 0, .int .i64 0, .int .i64 0, .slice none 0 0] 172).below b3)) | (with_reducible have hXX1 := Aside0.mk ((Bx.drew (Bx.new _ [.int .i64 0, .int .i64 0, .int .i64 0, .int .i64 0, .slice none 0 0] 172)).below b3)) | skip); (first | (have hXx0 := hXX1.out.c 0 _ rfl; have hXxf0 := hXX1.out.f 0; have hXx1 := hXX1.out.c 1 _ rfl; have hXxf1 := hXX1.out.f 1; have hXx2 := hXX1.out.c 2 _ rfl; have hXxf2 := hXX1.out.f 2; have hXx3 := hXX1.out.c 3 _ rfl; have hXxf3 := hXX1.out.f 3; have hXx4 := hXX1.out.c 4 _ rfl; have hXxf4 := hXX1.out.f 4; have hXxl := hXX1.out.lt) | skip); have hXQ1 := Aside0.mk hXq1; clear b3))
                    all_goals
                      try go_wp2_with fail
                      go_meet
                      case rel =>
                        first
                          | (with_reducible refine ⟨_, rfl, ⟨below_alloc hXQ1.out _⟩, ⟨Bx.new' _ _ _ rfl⟩, ⟨hXQ1.out.size⟩⟩; done)
                          | (refine ⟨_, rfl, ⟨?_⟩, ⟨?_⟩, ⟨?_⟩⟩
                             · repeat (first | (with_reducible exact hXQ1.out) | (with_reducible refine below_set ?_ (Below.size (by with_reducible assumption))) | (with_reducible refine below_set ?_ (Nat.le_refl _)) | (with_reducible refine below_set ?_ (by omega)) | (with_reducible refine below_alloc ?_ _))
                             · exact (((((hXX1.out.set (i := 0) (by simp) _).set (i := 1) (by simp) _).set (i := 2) (by simp) _).set (i := 3) (by simp) _).set (i := 4) (by simp) _)
                             · first | exact Nat.le_refl _ | exact hXQ1.out.size | exact hXQ0.out.size)
                  case rest =>
                  obtain ⟨hXb, rfl, hXB, XX, HXb⟩ := hcut
                  obtain ⟨WhX, hWhX⟩ : ∃ WhX, WhX = wc := ⟨_, rfl⟩
                  subst hWhX
                  have Q13 := Aside0.mk (below_more Q12.out hXB.out)
                  have F13 := Aside0.mk (F12.out.below hXB.out)
                  have C13 := Aside0.mk (C12.out.below hXB.out)
                  have E13 := Aside0.mk (E12.out.below hXB.out)
                  have x4 := C13.out.c 4 _ rfl
                  go_wp2_with fail
                  clear x4
                  have HXL := Aside0.mk XX.out.lt
                  have hml4 : (c.length + 1 : Nat) ≤ 19 := by omega
                  go_loopw [77] (fun v77 wr => ∃ (i : Nat) (XA : Option Addr) (xc : Nat), v77 = .int .i64 (i : Int) ∧ i ≤ c.length + 1 ∧ Aside0 (Bx wr hXb [.int .i64 np, .int .i64 na, .int .i64 nw, .int .i64 nf, .slice XA i xc]) ∧ Aside0 (Kd.R kStep 85 wr WhX.heap.size (fun _ => True) (.slice XA i xc) ((stepOf ⟨ap, aa, aw⟩ :: c).take i)) ∧ Aside0 (Below W12.heap.size W12 wr) ∧ WhX.heap.size ≤ wr.heap.size) (fun v77 _ => c.length + 1 - (intOf v77).toNat)
                  case atStart => exact ⟨0, none, 0, rfl, Nat.zero_le _, XX, ⟨Kd.R_nil ..⟩, hXB, Nat.le_refl _⟩
                  case round =>
                    obtain ⟨i, XA, xc, rfl, hi, X4, R4, B4, hsz4⟩ := hrel
                    by_cases hlt4 : i < c.length + 1
                    · have BR4 := Aside0.mk (below_more Q12.out B4.out)
                      obtain ⟨ads, es2, y0, y1⟩ := at_Step (Kd.R_reads' (Kd.R_below RS3.out BR4.out)).2.2 i (by simpa using hlt4)
                      subst es2
                      obtain ⟨⟨sp, sw⟩, hs⟩ : ∃ y, y = (stepOf ⟨ap, aa, aw⟩ :: c).getD i default := ⟨_, rfl⟩
                      rw [← hs] at y0 y1
                      have HTK := Aside0.mk (show (stepOf ⟨ap, aa, aw⟩ :: c).take (i + 1) = (stepOf ⟨ap, aa, aw⟩ :: c).take i ++ [⟨sp, sw⟩] by rw [hs]; exact take_getD _ i (by simpa using hlt4))
                      have HLI := Aside0.mk (show ((stepOf ⟨ap, aa, aw⟩ :: c).take i).length = i by rw [List.length_take, List.length_cons]; omega)
                      have HL9 : Aside0 (((stepOf ⟨ap, aa, aw⟩ :: c).take i ++ [(⟨sp, sw⟩ : StepT)]).length = i + 1) := ⟨by rw [List.length_append, HLI.out]; rfl⟩
                      have X5 := Aside0.mk (X4.out.alloc (.cells #[.int .i64 sp, .int .i64 sw] 85))
                      have R5 := Aside0.mk (Kd.R_alloc R4.out (.cells #[.int .i64 sp, .int .i64 sw] 85))
                      have S5 := Aside0.mk (Bx.new wr [.int .i64 sp, .int .i64 sw] 85)
                      have B5 := Aside0.mk (below_alloc B4.out (.cells #[.int .i64 sp, .int .i64 sw] 85))
                      have Z5 := Aside0.mk (show WhX.heap.size ≤ (wr.alloc (.cells #[.int .i64 sp, .int .i64 sw] 85)).heap.size by simp; omega)
                      have x4 := X5.out.c 4 _ rfl; have s0 := S5.out.c 0 _ rfl; have s1 := S5.out.c 1 _ rfl
                      have hi0 : (0 : Int) ≤ (i : Int) := by omega
                      have hi1 : (i : Int) < ((c.length + 1 : Nat) : Int) := by omega
                      clear hs
                      go_wp2_with ((with_reducible refine gate_callP (b := .append) (xs := #[.tmp 82, .tmp 84]) rfl ?_); at_builtin; refine Kd.R_append kStep (w0 := wr.alloc (.cells #[.int .i64 sp, .int .i64 sw] 85)) WhX.heap.size rfl (.tmp 82) (.tmp 84) 83 85 (.agg #[.int .i64 0, .int .i64 0]) 16 rfl Try.underlying83 info85 rfl (by decide) (by omega) (.slice XA i xc) ((stepOf ⟨ap, aa, aw⟩ :: c).take i) ⟨sp, sw⟩ [.int .i64 sp, .int .i64 sw] (fun _ => True) (fun _ => False) rfl (by first | (go_simp; done) | (go_simp; rfl)) (kStep_mkM _ _ _ ⟨sp, sw⟩) (fun _ hk => hk.elim) (fun _ _ => trivial) R5.out (Below.refl _ _) Z5.out (by rw [HLI.out]; omega) ?_; intro v1 w9 hR9 hB9 hG9 hat9; obtain ⟨pA1, pc1, hv9⟩ := Kd.R_slice hR9; rw [HL9.out] at hv9; subst hv9; have X9 := Aside0.mk (X5.out.grownP hG9 (fun he => by have h1 := Kd.R_base R5.out _ he.symm; have h2 := HXL.out; omega)); have R9 := Aside0.mk hR9; have B9 := Aside0.mk hB9; clear hR9 hB9 hG9 hat9; have x94 := X9.out.c 4 _ rfl; have xf94 := X9.out.f 4; have xl9 := X9.out.lt)
                      go_roundw
                      case rel =>
                        have h1 := HXb.out
                        have h2 := HXL.out
                        refine ⟨i + 1, pA1, pc1, by go_num, by omega, ⟨X9.out.set (i := 4) (by simp) _⟩, ⟨by rw [HTK.out]; exact R_apart (p := ⟨hXb, 4, none⟩) R9.out h2 _⟩, ⟨below_set (B5.out.trans ⟨B9.out.os, B9.out.tape, B9.out.output, B9.out.size, fun k hk => B9.out.block k (by have := hXB.out.size; omega)⟩) h1⟩, ?_⟩
                        have h3 := B9.out.size
                        have h4 := Z5.out
                        simp [World.setCell]
                        omega
                      case measure => simp [intOf]; omega
                    · have hie : i = c.length + 1 := by omega
                      have HIE := Aside0.mk hie
                      have hge4 : ¬ (i : Int) < ((c.length + 1 : Nat) : Int) := by omega
                      clear hie
                      have RT4 : Aside0 (Kd.R kStep 85 wr WhX.heap.size (fun _ => True) (.slice XA i xc) (stepOf ⟨ap, aa, aw⟩ :: c)) := ⟨by
                        have h := R4.out
                        rw [show (stepOf ⟨ap, aa, aw⟩ :: c).take i = stepOf ⟨ap, aa, aw⟩ :: c from List.take_of_length_le (by rw [List.length_cons, HIE.out]; omega)] at h
                        exact h⟩
                      have HSTP : Aside0 (comesS ⟨ep, es⟩ = ⟨np, nw⟩) := ⟨by rw [← enter_step n ⟨ep, es⟩, ← HEN.out]; rfl⟩
                      have X4d := Aside0.mk X4.out.drew
                      have xd4 := X4d.out.c 4 _ rfl; have xd0 := X4d.out.c 0 _ rfl; have xd1 := X4d.out.c 1 _ rfl; have xd2 := X4d.out.c 2 _ rfl
                      have hxl := HXL.out
                      go_upto_region 19 with (fail)
                      go_cut [94] (fun s94 W => ∃ XA2 xc2, Aside0 (Bx W hXb [.int .i64 np, .int .i64 na, .int .i64 nw, .int .i64 nf, .slice XA2 (c.length + 2) xc2]) ∧ Aside0 (Kd.R kStep 85 W WhX.heap.size (fun _ => True) (.slice XA2 (c.length + 2) xc2) (stepOf ⟨ap, aa, aw⟩ :: (c ++ [comesS ⟨ep, es⟩]))) ∧ Aside0 (Below W12.heap.size W12 W))
                      case first =>
                        go_region_law
                          (first
                            | (rw [if_pos (by rfl)]; go_simp; go_at_call 152; (with_reducible refine Calls.mono (l4step_any ⟨np, na, nw⟩ _) ?_); rintro e w5 ⟨rfl, b5⟩; have X5 := Aside0.mk (X4d.out.below b5); have R5 := Aside0.mk (Kd.R_below (Kd.R_drew RT4.out) b5); have B5 := Aside0.mk (below_more (below_drew B4.out) b5); have Z5 := Aside0.mk (show WhX.heap.size ≤ w5.heap.size from Nat.le_trans hsz4 b5.size); have x54 := X5.out.c 4 _ rfl; have x50 := X5.out.c 0 _ rfl; have x51 := X5.out.c 1 _ rfl; have x52 := X5.out.c 2 _ rfl; have x5l := X5.out.lt; clear b5)
                            | (refine Kd.R_append_step kStep (w0 := w5) (W := w5) WhX.heap.size (by rfl) _ _ 83 85 (.agg #[.int .i64 0, .int .i64 0]) 16 (by rfl) Try.underlying83 info85 rfl (by decide) (by omega) (.slice XA i xc) (stepOf ⟨ap, aa, aw⟩ :: c) ⟨np, nw⟩ [.int .i64 np, .int .i64 nw] (fun _ => True) (fun _ => False) (by rfl) (by rfl) (kStep_mkM _ _ _ _) (fun _ hk => hk.elim) (fun _ _ => trivial) R5.out (Below.refl _ _) Z5.out (by rw [List.length_cons]; omega) ?_; intro v1 w9 hR9 hB9 hG9 hat9; obtain ⟨pA1, pc1, rfl⟩ := Kd.R_slice hR9; have X9 := Aside0.mk (X5.out.grownP hG9 (fun he => by have h1 := Kd.R_base R5.out _ he.symm; omega)); have x94 := X9.out.c 4 _ rfl; have xf94 := X9.out.f 4; have xl9 := X9.out.lt; have R9 := Aside0.mk hR9; have B9 := Aside0.mk hB9; clear hR9 hB9 hG9 hat9))
                        all_goals
                          try go_wp2_with fail
                          go_meet
                          case rel =>
                            have hlen : (stepOf ⟨ap, aa, aw⟩ :: c ++ [(⟨np, nw⟩ : StepT)]).length = c.length + 2 := by simp
                            have hr9 := R9.out
                            have hXBs := hXB.out.size
                            have hXbs := HXb.out
                            rw [hlen] at hr9
                            refine ⟨pA1, pc1, ⟨?_⟩, ⟨?_⟩, ⟨?_⟩⟩
                            · have := X9.out.set (i := 4) (by simp) (.slice pA1 (c.length + 2) pc1)
                              first | exact this | (rw [hlen]; exact this)
                            · rw [HSTP.out]
                              first | exact R_apart (p := ⟨hXb, 4, none⟩) hr9 hxl _ | (rw [hlen]; exact R_apart (p := ⟨hXb, 4, none⟩) hr9 hxl _)
                            · exact below_set (B5.out.trans ⟨B9.out.os, B9.out.tape, B9.out.output, B9.out.size, fun k hk => B9.out.block k (by omega)⟩) hXbs
                      case rest =>
                      obtain ⟨XA2, xc2, X19, R19, B19⟩ := hcut
                      obtain ⟨W19, hW19⟩ : ∃ W19, W19 = wc := ⟨_, rfl⟩
                      subst hW19
                      have Q19 := Aside0.mk (below_more Q12.out B19.out)
                      obtain ⟨st, hst⟩ : ∃ st, st = endSt n c (lineSt n ⟨ap, aa, aw⟩ best line a) E q := ⟨_, rfl⟩
                      have HSN := Aside0.mk (endSt_next (n := n) (c := c) (st := lineSt n ⟨ap, aa, aw⟩ best line a) hlt3)
                      have hbest := endSt_best n c (lineSt n ⟨ap, aa, aw⟩ best line a) E (stepOf ⟨ap, aa, aw⟩) (lineSt_best n ⟨ap, aa, aw⟩ best line (fun p l hl => ⟨(HI.out.walk p l hl).2.2.1, (HI.out.walk p l hl).2.1⟩) a ha) q hq
                      rw [← hst] at F3 N3 HSN hbest
                      rw [← HEQ.out] at HSN
                      have hslen := endSt_len n c (lineSt n ⟨ap, aa, aw⟩ best line a) E q hq
                      rw [← hst] at hslen
                      have HSL := Aside0.mk (show st.2.length ≤ 2097152 by have h1 := HNL.out; have h2 := HLM.out; have h3 := HE2.out; omega)
                      have HST := Aside0.mk hst
                      rw [← hst]
                      have LS19 := Aside0.mk (show LS w [.slice A0 n.pieces.length c0, .slice (some adj) n.joints.length c1] gB cb gK cK Q WO.heap.size WP.heap.size (.slice (some ad) line.length lc) lh (line.map (carOf n ⟨ap, aa, aw⟩)) [.int .i64 xp, .int .i64 xa, .int .i64 xw, .int .i64 xf, .slice B (c.length + 1) d] (.slice (some adE) E.length cE) E (.slice B (c.length + 1) d) (stepOf ⟨ap, aa, aw⟩ :: c) W19 hl3 bl3 kl3 (.slice NA3 st.2.length nc3) nh3 (st.2.map (carOf n ⟨ap, aa, aw⟩)) from ⟨F3.out.net.below Q19.out, F3.out.b.below Q19.out, Kd.R_below F3.out.k Q19.out, below_more F3.out.b0 Q19.out, N3.out.below Q19.out, L3.out.below Q19.out, C3.out.below Q19.out, Kd.R_below E3.out Q19.out, Kd.R_below RS3.out Q19.out, by have h1 := HF.out.ne; have h2 := HF.out.ltB; have h3 := HF.out.ltK; omega⟩)
                      have HREL := Aside0.mk F3.out.rel
                      have E19 := Aside0.mk (E12.out.below B19.out)
                      have hpok := comesS_ok HEE.out
                      obtain ⟨m, hm⟩ : ∃ m, m = numS (comesS ⟨ep, es⟩) := ⟨_, rfl⟩
                      have hm2 : 2 * ep + es = (m : Int) := by
                        have h1 := HEB.out
                        rw [hm]
                        unfold numS comesS
                        simp only
                        rcases (by omega : es = 0 ∨ es = 1) with h | h <;> subst h <;> simp <;> omega
                      have hmQ : m < Q := by rw [hm, HQ.out]; exact numS_lt hpok
                      obtain ⟨tk, htk⟩ : ∃ b, b = (match st.1 (comesS ⟨ep, es⟩) with | none => true | some l => lessW n (c ++ [comesS ⟨ep, es⟩]) l) := ⟨_, rfl⟩
                      have HRX := Aside0.mk (relax_if n st (comesS ⟨ep, es⟩) (c ++ [comesS ⟨ep, es⟩]) tk htk)
                      have HTK : Aside0 (tk = (!kl3.getD m false || lessCar (carOf n ⟨ap, aa, aw⟩ (c ++ [comesS ⟨ep, es⟩])) (bl3.getD m default))) := ⟨by rw [htk, hm]; exact (HREL.out.taken hbest hpok c).symm⟩
                      have HCN : Aside0 (carOf n ⟨ap, aa, aw⟩ (c ++ [comesS ⟨ep, es⟩]) = ⟨⟨np, na, nw⟩, nf, stepOf ⟨ap, aa, aw⟩ :: (c ++ [comesS ⟨ep, es⟩])⟩) := ⟨by rw [carOf_next HG.out HSP.out HCF.out HEE.out, ← HEN.out, ← HXS.out, ← HRM.out, ← HXF.out, ← HNF.out]; rfl⟩
                      have HTKE := Aside0.mk (HREL.out.take hpok (c ++ [comesS ⟨ep, es⟩]))
                      rw [← hm] at HTKE
                      have HPOK := Aside0.mk hpok
                      have hw1 : IntKind.i64.wrap (2 * ep) = 2 * ep := by have h1 := HEB.out; exact wrap64 (by omega) (by omega)
                      have hw2 : IntKind.i64.wrap (2 * ep + es) = (m : Int) := by rw [← hm2]; have h1 := HEB.out; exact wrap64 (by omega) (by omega)
                      have e0 := E19.out.c 0 _ rfl; have e1 := E19.out.c 1 _ rfl
                      have hm0 : (0 : Int) ≤ (m : Int) := by omega
                      have hm1 : (m : Int) < (Q : Int) := by omega
                      have HMQ := Aside0.mk hmQ
                      clear hst hbest hslen hpok hm hm2 htk
                      go_upto_region 21 with (fail)
                      clear e0 e1 hw1 hw2
                      go_cut [114] (fun s W => s = .bool tk ∧ Aside0 (Below W19.heap.size W19 W))
                      case first =>
                        obtain ⟨adk, ek, y0⟩ := at_Bool (Kd.R_reads' LS19.out.k).2.2 m (by have := (Kd.R_reads' LS19.out.k).1; omega)
                        injection ek with ek
                        subst ek
                        rw [add_lit] at y0
                        obtain ⟨kb, hkb⟩ : ∃ b, b = kl3.getD m false := ⟨_, rfl⟩
                        rw [← hkb] at y0
                        cases kb with
                        | false =>
                          have e9 : tk = true := by rw [HTK.out, ← hkb]; rfl
                          subst e9
                          clear hkb
                          go_quiet (fail)
                          all_goals
                            try go_wp2_with fail
                            go_meet
                            case rel => exact ⟨rfl, ⟨below_drewN' (Below.refl _ _) _⟩⟩
                        | true =>
                          have e9 : tk = lessCar (carOf n ⟨ap, aa, aw⟩ (c ++ [comesS ⟨ep, es⟩])) (bl3.getD m default) := by rw [HTK.out, ← hkb]; rfl
                          rw [HCN.out] at e9
                          obtain ⟨adb, cb2, YB, yd, eb, b0', b1', b2', b3', b4', hYS⟩ := LS19.out.b.at_ (i := m) (by have := HREL.out.lb; have := HQ.out; omega)
                          injection eb with eb1 eb2 eb3
                          clear eb2 eb3
                          injection eb1 with eb1
                          subst eb1
                          obtain ⟨yc, hyc⟩ : ∃ y, y = bl3.getD m default := ⟨_, rfl⟩
                          rw [← hyc] at b0' b1' b2' b3' b4' hYS e9
                          rw [add_lit] at b0' b1' b2' b3' b4'
                          simp only at b1' b2' b3' b4'
                          have HE9 := Aside0.mk e9.symm
                          have HYS := Aside0.mk (Kd.R_reads' hYS).2.2
                          have Y0 := Aside0.mk y0; have Z0 := Aside0.mk b0'; have Z1 := Aside0.mk b1'; have Z2 := Aside0.mk b2'; have Z3 := Aside0.mk b3'; have Z4 := Aside0.mk b4'
                          have hlen2 : (stepOf ⟨ap, aa, aw⟩ :: (c ++ [comesS ⟨ep, es⟩])).length = c.length + 2 := by simp
                          have HRC := Aside0.mk (Kd.R_reads' R19.out).2.2
                          have HSX : Aside0 (∀ W, Below W19.heap.size W19 W → (Below W19.heap.size W19 W ∧ W.cell? ⟨gK, m, none⟩ = some (.bool true) ∧ W.cell? ⟨hXb, 0, none⟩ = some (.int .i64 np) ∧ W.cell? ⟨hXb, 1, none⟩ = some (.int .i64 na) ∧ W.cell? ⟨hXb, 2, none⟩ = some (.int .i64 nw) ∧ W.cell? ⟨hXb, 3, none⟩ = some (.int .i64 nf) ∧ W.cell? ⟨hXb, 4, none⟩ = some (.slice XA2 (c.length + 2) xc2) ∧ W.cell? ⟨gB, m * 5, none⟩ = some (.int .i64 yc.spot.piece) ∧ W.cell? ⟨gB, m * 5 + 1, none⟩ = some (.int .i64 yc.spot.at_) ∧ W.cell? ⟨gB, m * 5 + 2, none⟩ = some (.int .i64 yc.spot.way) ∧ W.cell? ⟨gB, m * 5 + 3, none⟩ = some (.int .i64 yc.far) ∧ W.cell? ⟨gB, m * 5 + 4, none⟩ = some (.slice YB yc.steps.length yd))) := ⟨fun W hb => ⟨hb, pw_cell_below hb Y0.out, (X19.out.below hb).c 0 _ rfl, (X19.out.below hb).c 1 _ rfl, (X19.out.below hb).c 2 _ rfl, (X19.out.below hb).c 3 _ rfl, (X19.out.below hb).c 4 _ rfl, pw_cell_below hb Z0.out, pw_cell_below hb Z1.out, pw_cell_below hb Z2.out, pw_cell_below hb Z3.out, pw_cell_below hb Z4.out⟩⟩
                          clear y0 b0' b1' b2' b3' b4' hyc hkb hYS e9
                          go_region_held3 (fun W => Below W19.heap.size W19 W ∧ W.cell? ⟨gK, m, none⟩ = some (.bool true) ∧ W.cell? ⟨hXb, 0, none⟩ = some (.int .i64 np) ∧ W.cell? ⟨hXb, 1, none⟩ = some (.int .i64 na) ∧ W.cell? ⟨hXb, 2, none⟩ = some (.int .i64 nw) ∧ W.cell? ⟨hXb, 3, none⟩ = some (.int .i64 nf) ∧ W.cell? ⟨hXb, 4, none⟩ = some (.slice XA2 (c.length + 2) xc2) ∧ W.cell? ⟨gB, m * 5, none⟩ = some (.int .i64 yc.spot.piece) ∧ W.cell? ⟨gB, m * 5 + 1, none⟩ = some (.int .i64 yc.spot.at_) ∧ W.cell? ⟨gB, m * 5 + 2, none⟩ = some (.int .i64 yc.spot.way) ∧ W.cell? ⟨gB, m * 5 + 3, none⟩ = some (.int .i64 yc.far) ∧ W.cell? ⟨gB, m * 5 + 4, none⟩ = some (.slice YB yc.steps.length yd))
                            (first | (with_reducible assumption) | (with_reducible exact HSX.out _ (by with_reducible assumption)) | (with_reducible exact HSX.out _ (Below.drew (Below.refl _ _))))
                            (first
                              | (go_at_call 153; go_split_ands; have hbq : Below W19.heap.size W19 _ := (by with_reducible assumption); have hl4 := l4less_any ⟨⟨np, na, nw⟩, nf, stepOf ⟨ap, aa, aw⟩ :: (c ++ [comesS ⟨ep, es⟩])⟩ yc XA2 xc2 YB yd _ (Kd.C_below HRC.out hbq) (Kd.C_below HYS.out hbq); simp only at hl4; rw [hlen2] at hl4; (with_reducible refine Calls.mono hl4 ?_); clear hl4; rintro e q0 ⟨rfl, b3⟩; rw [HE9.out]; have hq2 : Below W19.heap.size W19 q0 := below_more hbq b3; have HQ2 := Aside0.mk hq2; clear b3 hbq))
                          all_goals
                            try go_wp2_with fail
                            go_meet
                            case rel => exact ⟨rfl, HQ2⟩
                      case rest =>
                      obtain ⟨rfl, Q21⟩ := hcut
                      obtain ⟨W21, hW21⟩ : ∃ W21, W21 = wc := ⟨_, rfl⟩
                      subst hW21
                      have LS21 := Aside0.mk (LS19.out.below Q21.out)
                      have X21 := Aside0.mk (X19.out.below Q21.out)
                      have R21 := Aside0.mk (Kd.R_below R19.out Q21.out)
                      have HZQ := Aside0.mk (show WO.heap.size < hXb ∧ WP.heap.size < hXb ∧ WhX.heap.size ≤ W21.heap.size ∧ w.heap.size ≤ WhX.heap.size ∧ WP.heap.size < W21.heap.size by
                        have h1 := HXb.out; have h2 := Q12.out.size; have h3 := Q21.out.size; have h4 := B19.out.size; have h5 := hXB.out.size; have h6 := LS21.out.b0.size; have h7 := LS21.out.c.lt; have h8 := C3.out.lt; have h9 := F3.out.b0.size; have h10 := LS19.out.ne; have h11 := R_wide R19.out (by simp); omega)
                      cases tk with
                      | false =>
                        have HSN2 : Aside0 (endSt n c (lineSt n ⟨ap, aa, aw⟩ best line a) E (q + 1) = st) := ⟨by rw [HSN.out, HRX.out]; rfl⟩
                        go_wp2_with fail
                        go_roundw
                        case rel =>
                          refine ⟨q + 1, nh3, hl3, bl3, kl3, by go_num, by omega, ⟨?_⟩, ⟨?_⟩, ⟨LS21.out.l⟩, ⟨LS21.out.c⟩, ⟨LS21.out.e⟩, ⟨LS21.out.rs⟩, HZQ.out.2.2.2.2⟩
                          · rw [HSN2.out]; exact ⟨LS21.out.net, LS21.out.b, LS21.out.k, HREL.out, LS21.out.b0⟩
                          · rw [HSN2.out]; exact LS21.out.nx
                        case measure => simp [intOf]; omega
                      | true =>
                        have HSN2 : Aside0 (endSt n c (lineSt n ⟨ap, aa, aw⟩ best line a) E (q + 1) = (fun p => if p = comesS ⟨ep, es⟩ then some (c ++ [comesS ⟨ep, es⟩]) else st.1 p, st.2 ++ [c ++ [comesS ⟨ep, es⟩]])) := ⟨by rw [HSN.out, HRX.out]; rfl⟩
                        have HHD : Aside0 (hdrOf (carOf n ⟨ap, aa, aw⟩ (c ++ [comesS ⟨ep, es⟩])) XA2 xc2 = (np, na, nw, nf, (XA2, c.length + 2, xc2))) := ⟨by rw [HCN.out]; unfold hdrOf; simp⟩
                        have HCL2 : Aside0 ((carOf n ⟨ap, aa, aw⟩ (c ++ [comesS ⟨ep, es⟩])).steps = stepOf ⟨ap, aa, aw⟩ :: (c ++ [comesS ⟨ep, es⟩]) ∧ (stepOf ⟨ap, aa, aw⟩ :: (c ++ [comesS ⟨ep, es⟩])).length = c.length + 2) := ⟨by rw [HCN.out]; exact ⟨rfl, by simp⟩⟩
                        have hz := HZQ.out
                        have hlne := LS21.out.ne
                        have hnl := LS21.out.nx.len
                        rw [List.length_map] at hnl
                        go_upto_region 23 with ((with_reducible refine gate_store (t := 4) (p := 117) rfl ?_); refine store_whole Kd.bool (w.heap.size + 2) rfl rfl 4 _ _ rfl 4 m kl3 true _ false (fun k => k = gK) (fun _ => False) rfl (by first | rfl | (simp [Kd.bool, Kd.scalar]; done)) rfl (by kernel_rfl) LS21.out.k HMQ.out rfl (fun _ hk => hk.elim) (Below.refl _ _) ?_; intro w22 hR22 hB22 hG22; have LS22 := Aside0.mk (LS21.out.known hR22 hB22 hG22); have X22 := Aside0.mk (X21.out.grownP hG22 (fun he => by injection he with he; omega)); have R22 := Aside0.mk (Kd.R_over R21.out LS21.out.k (by decide) hG22); have hsz22 := hB22.size; clear hR22 hB22 hG22; have x0 := X22.out.c 0 _ rfl; have x1 := X22.out.c 1 _ rfl; have x2 := X22.out.c 2 _ rfl; have x3 := X22.out.c 3 _ rfl; have x4 := X22.out.c 4 _ rfl)
                        go_upto_region 24 with ((with_reducible refine gate_store (t := 172) (p := 121) rfl ?_); refine store_whole kHdr (w.heap.size + 2) rfl rfl 172 _ _ rfl 172 m hl3 (np, na, nw, nf, (XA2, c.length + 2, xc2)) _ zHdr (fun k => k = gB) (fun _ => False) rfl (by first | rfl | (simp [kHdr, Kd.pair, Kd.int, Kd.scalar]; done)) rfl (by kernel_rfl) LS22.out.b.outer HMQ.out (kHdr_mkM _ _ _ (np, na, nw, nf, (XA2, c.length + 2, xc2))) (fun _ hk => hk.elim) (Below.refl _ _) ?_; intro w23 hR23 hB23 hG23; have LS23 := Aside0.mk (LS22.out.best (x := carOf n ⟨ap, aa, aw⟩ (c ++ [comesS ⟨ep, es⟩])) (A := XA2) (c := xc2) HMQ.out (by rw [HHD.out]; exact hR23) hB23 hG23 (by rw [HCL2.out.1, HCL2.out.2]; exact Kd.R_lower R22.out hz.2.2.2.1)); have X23 := Aside0.mk (X22.out.grownP hG23 (fun he => by injection he with he; omega)); have R23 := Aside0.mk (Kd.R_over R22.out LS22.out.b.outer (by decide) hG23); have hsz23 := hB23.size; clear hR23 hB23 hG23 x0 x1 x2 x3 x4; have x0 := X23.out.c 0 _ rfl; have x1 := X23.out.c 1 _ rfl; have x2 := X23.out.c 2 _ rfl; have x3 := X23.out.c 3 _ rfl; have x4 := X23.out.c 4 _ rfl)
                        go_wp2_with ((with_reducible refine gate_callP (b := .append) (xs := #[.tmp 122, .tmp 124]) rfl ?_); at_builtin; refine Kd.R_append kHdr (w0 := w23) WO.heap.size rfl (.tmp 122) (.tmp 124) 169 172 (.agg #[.int .i64 0, .int .i64 0, .int .i64 0, .int .i64 0, .slice none 0 0]) 56 rfl Try.underlying169 info172 rfl (by decide) (by omega) (.slice NA3 st.2.length nc3) nh3 (np, na, nw, nf, (XA2, c.length + 2, xc2)) [.int .i64 np, .int .i64 na, .int .i64 nw, .int .i64 nf, .slice XA2 (c.length + 2) xc2] (fun k => k ≠ WP.heap.size) (fun _ => False) rfl (by first | (go_simp; done) | (go_simp; rfl)) (kHdr_mkM _ _ _ (np, na, nw, nf, (XA2, c.length + 2, xc2))) (fun _ hk => hk.elim) (fun k hk => by show k ≠ WP.heap.size; omega) LS23.out.nx.outer (Below.refl _ _) (by omega) (by have := HSL.out; omega) ?_; intro v1 w24 hR24 hB24 hG24 hat24; have LS24 := Aside0.mk (LS23.out.next (x := carOf n ⟨ap, aa, aw⟩ (c ++ [comesS ⟨ep, es⟩])) (A := XA2) (c := xc2) (by rw [HHD.out]; exact hR24) hB24 hG24 (by rw [HCL2.out.1, HCL2.out.2]; exact Kd.R_lower R23.out hz.2.2.2.1)); have hsz24 := hB24.size; clear hR24 hB24 hG24 hat24)
                        go_roundw
                        case rel =>
                          refine ⟨q + 1, nh3 ++ [hdrOf (carOf n ⟨ap, aa, aw⟩ (c ++ [comesS ⟨ep, es⟩])) XA2 xc2], hl3.set m (hdrOf (carOf n ⟨ap, aa, aw⟩ (c ++ [comesS ⟨ep, es⟩])) XA2 xc2), bl3.set m (carOf n ⟨ap, aa, aw⟩ (c ++ [comesS ⟨ep, es⟩])), kl3.set m true, by go_num, by omega, ⟨?_⟩, ⟨?_⟩, ⟨LS24.out.l⟩, ⟨LS24.out.c⟩, ⟨LS24.out.e⟩, ⟨LS24.out.rs⟩, by omega⟩
                          · rw [HSN2.out]; exact ⟨LS24.out.net, LS24.out.b, LS24.out.k, HTKE.out, LS24.out.b0⟩
                          · rw [HSN2.out]
                            show CR _ _ _ _ _ _ ((st.2 ++ [c ++ [comesS ⟨ep, es⟩]]).map _)
                            rw [List.map_append]
                            exact LS24.out.nx
                        case measure => simp [intOf]; omega
                · have hqe : q = E.length := by omega
                  have HQE := Aside0.mk hqe
                  have hge : ¬ (q : Int) < (E.length : Int) := by omega
                  clear hqe
                  go_wp2_with fail
                  go_roundw
                  case rel =>
                    have hF := F3.out
                    have hN := N3.out
                    have hl := endSt_len n c (lineSt n ⟨ap, aa, aw⟩ best line a) E q hq
                    have e1 : endSt n c (lineSt n ⟨ap, aa, aw⟩ best line a) E q = lineSt n ⟨ap, aa, aw⟩ best line (a + 1) := by
                      rw [HQE.out, lineSt_next hlt, ← HCE.out]
                      exact endSt_all HE.out
                    rw [e1] at hF hN hl
                    refine ⟨a + 1, nh3, hl3, bl3, kl3, by go_num, by omega, ⟨hF⟩, ⟨?_⟩, L3, ⟨by have h1 := HNL.out; have h2 := HE2.out; omega⟩, by omega⟩
                    rw [e1]
                    exact hN.mono (fun _ _ _ _ => trivial)
                  case measure => simp [intOf]; omega
          · have hal : a = line.length := by omega
            have HAL := Aside0.mk hal
            have hge : ¬ (a : Int) < (line.length : Int) := by omega
            clear hal
            go_wp2_with fail
            go_roundw
            case rel =>
              have e := HAL.out
              have hF := HF2.out
              have hN := HN2.out
              have hl := HNL.out
              rw [e, lineSt_all] at hF hN hl
              refine ⟨r + 1, _, _, nh, hl2, bl2, kl2, ⟨hF⟩, ⟨?_⟩, ⟨HI.out.step HG.out (stepOf_ok HSP.out)⟩, by have := HRQ.out; omega, ⟨?_⟩⟩
              · rw [e, lineSt_all]
                exact (hN.mono (fun k _ _ hk => by have := HF.out.ltB.2; show k ≠ gB; omega)).lower (by have := HF.out.ltB; omega)
              · have h1 := HLN.out
                rw [Nat.pow_succ]
                omega
            case measure =>
              have e := HAL.out
              have hN := HN2.out
              rw [e, lineSt_all] at hN
              simp only [e, lineSt_all]
              exact line_down HL.out hN HI.out (HI.out.step HG.out (stepOf_ok HSP.out)) HNE.out HRQ.out
end Go.Proofs.Ytckcffjnffcjcaa
