/- Contract of the closure of the program's pathLies. No conditions. -/
import Derived.Test.YtckcffjnffcjcaaDr1
import Derived.Deep.RegionHeld3
import Derived.Outline
set_option linter.unusedVariables false
set_option linter.unusedSimpArgs false
namespace Go.Proofs.Ytckcffjnffcjcaa
open Go.RowKit Go.Proofs.YtckcffjnffcjcaaW.PrintWords
set_option maxRecDepth 100000 in
set_option maxHeartbeats 4000000 in
theorem isStep_any (x : EndT) (bs bi : Nat) (A : Option Addr) (c : Nat) (l : List StepT) (i : Nat) (w : World) (hb : Bx w bs [.slice A l.length c]) (hi : Bx w bi [.int .i64 (i : Int)]) (hC : Kd.C kStep w A l.length l) (hil : i < l.length) :
    Calls Try.prog 184 #[.agg #[.int .i64 x.piece, .int .i64 x.side], .pointer (some ⟨bs, 0, none⟩), .pointer (some ⟨bi, 0, none⟩)] w
      fun e w' => e = .returned (.bool (decide (comesS x = l.getD i default))) ∧ Below w.heap.size w w' := by
  obtain ⟨ad, e0, y0, y1⟩ := at_Step hC i hil
  subst e0
  have hm := hC.2.1
  obtain ⟨⟨tp, tw⟩, ht⟩ : ∃ t, t = l.getD i default := ⟨_, rfl⟩
  rw [← ht] at y0 y1 ⊢
  obtain ⟨⟨cp, cw⟩, hcs⟩ : ∃ t, t = comesS x := ⟨_, rfl⟩
  rw [← hcs]
  have HCS := Aside0.mk hcs.symm
  have HV : Aside0 (decide ((⟨cp, cw⟩ : StepT) = ⟨tp, tw⟩) = ((cp == tp) && (cw == tw))) := ⟨by
    by_cases h1 : cp = tp
    · by_cases h2 : cw = tw
      · subst h1; subst h2; simp
      · have : ¬ ((⟨cp, cw⟩ : StepT) = ⟨tp, tw⟩) := fun h => h2 (by injection h)
        simp [this, h2]
    · have : ¬ ((⟨cp, cw⟩ : StepT) = ⟨tp, tw⟩) := fun h => h1 (by injection h)
      simp [this, h1]⟩
  obtain ⟨W0, hW0⟩ : ∃ W0, W0 = w.alloc (.cells #[.int .i64 x.piece, .int .i64 x.side] 67) := ⟨_, rfl⟩
  have fb : Below w.heap.size w W0 := by rw [hW0]; exact below_alloc (Below.refl _ _) _
  have XE : Aside0 (Bx W0 w.heap.size [.int .i64 x.piece, .int .i64 x.side]) := ⟨by rw [hW0]; exact Bx.new w _ 67⟩
  have XS := Aside0.mk (hb.below fb)
  have XI := Aside0.mk (hi.below fb)
  replace y0 := pw_cell_below fb y0
  replace y1 := pw_cell_below fb y1
  have Y0 := Aside0.mk y0
  have Y1 := Aside0.mk y1
  have FB := Aside0.mk fb
  have HW0 := Aside0.mk hW0
  have hi0 : (0 : Int) ≤ (i : Int) := by omega
  have hi1 : (i : Int) < (l.length : Int) := by omega
  clear hb hi hC ht hcs fb hW0
  have HS0 : Aside0 (∀ W, Below W0.heap.size W0 W → (Below W0.heap.size W0 W ∧ W.cell? ⟨w.heap.size, 0, none⟩ = some (.int .i64 x.piece) ∧ W.cell? ⟨w.heap.size, 1, none⟩ = some (.int .i64 x.side) ∧ W.cell? ⟨bs, 0, none⟩ = some (.slice (some ad) l.length c) ∧ W.cell? ⟨bi, 0, none⟩ = some (.int .i64 (i : Int)) ∧ W.cell? (ad.add (i * 2)) = some (.int .i64 tp) ∧ W.cell? ⟨(ad.add (i * 2)).block, (ad.add (i * 2)).off + 1, none⟩ = some (.int .i64 tw))) :=
    ⟨fun W hb => ⟨hb, (XE.out.below hb).c 0 _ rfl, (XE.out.below hb).c 1 _ rfl, (XS.out.below hb).c 0 _ rfl, (XI.out.below hb).c 0 _ rfl, pw_cell_below hb Y0.out, pw_cell_below hb Y1.out⟩⟩
  have e0 := XE.out.c 0 _ rfl; have e1 := XE.out.c 1 _ rfl; have s0 := XS.out.c 0 _ rfl; have i0 := XI.out.c 0 _ rfl
  cases h1 : (cp == tp) with
  | false =>
    rw [h1] at HV
    go_enter Try.func184, Try.ntmps184
    go_wp2_with fail
    rw [← HW0.out]
    go_region_held3 (fun W => Below W0.heap.size W0 W ∧ W.cell? ⟨w.heap.size, 0, none⟩ = some (.int .i64 x.piece) ∧ W.cell? ⟨w.heap.size, 1, none⟩ = some (.int .i64 x.side) ∧ W.cell? ⟨bs, 0, none⟩ = some (.slice (some ad) l.length c) ∧ W.cell? ⟨bi, 0, none⟩ = some (.int .i64 (i : Int)) ∧ W.cell? (ad.add (i * 2)) = some (.int .i64 tp) ∧ W.cell? ⟨(ad.add (i * 2)).block, (ad.add (i * 2)).off + 1, none⟩ = some (.int .i64 tw))
      (first | assumption | (with_reducible exact HS0.out _ (by assumption)) | (with_reducible exact HS0.out _ (Below.drew (Below.refl _ _))))
      (first | (go_at_call 181; go_split_ands; (with_reducible refine Calls.mono (comes_any x _) ?_); rintro e w3 ⟨rfl, b3⟩; rw [HCS.out]; have q3 : Below W0.heap.size W0 w3 := below_more (by assumption) b3; clear b3))
    all_goals
      try go_wp2_with fail
      go_ret
      exact ⟨by rw [HV.out]; rfl, below_more FB.out (by assumption)⟩
  | true =>
    cases h2 : (cw == tw) with
    | false =>
      rw [h1, h2] at HV
      go_enter Try.func184, Try.ntmps184
      go_wp2_with fail
      rw [← HW0.out]
      go_region_held3 (fun W => Below W0.heap.size W0 W ∧ W.cell? ⟨w.heap.size, 0, none⟩ = some (.int .i64 x.piece) ∧ W.cell? ⟨w.heap.size, 1, none⟩ = some (.int .i64 x.side) ∧ W.cell? ⟨bs, 0, none⟩ = some (.slice (some ad) l.length c) ∧ W.cell? ⟨bi, 0, none⟩ = some (.int .i64 (i : Int)) ∧ W.cell? (ad.add (i * 2)) = some (.int .i64 tp) ∧ W.cell? ⟨(ad.add (i * 2)).block, (ad.add (i * 2)).off + 1, none⟩ = some (.int .i64 tw))
        (first | assumption | (with_reducible exact HS0.out _ (by assumption)) | (with_reducible exact HS0.out _ (Below.drew (Below.refl _ _))))
        (first | (go_at_call 181; go_split_ands; (with_reducible refine Calls.mono (comes_any x _) ?_); rintro e w3 ⟨rfl, b3⟩; rw [HCS.out]; have q3 : Below W0.heap.size W0 w3 := below_more (by assumption) b3; clear b3))
      all_goals
        try go_wp2_with fail
        go_ret
        exact ⟨by rw [HV.out]; rfl, below_more FB.out (by assumption)⟩
    | true =>
      rw [h1, h2] at HV
      go_enter Try.func184, Try.ntmps184
      go_wp2_with fail
      rw [← HW0.out]
      go_region_held3 (fun W => Below W0.heap.size W0 W ∧ W.cell? ⟨w.heap.size, 0, none⟩ = some (.int .i64 x.piece) ∧ W.cell? ⟨w.heap.size, 1, none⟩ = some (.int .i64 x.side) ∧ W.cell? ⟨bs, 0, none⟩ = some (.slice (some ad) l.length c) ∧ W.cell? ⟨bi, 0, none⟩ = some (.int .i64 (i : Int)) ∧ W.cell? (ad.add (i * 2)) = some (.int .i64 tp) ∧ W.cell? ⟨(ad.add (i * 2)).block, (ad.add (i * 2)).off + 1, none⟩ = some (.int .i64 tw))
        (first | assumption | (with_reducible exact HS0.out _ (by assumption)) | (with_reducible exact HS0.out _ (Below.drew (Below.refl _ _))))
        (first | (go_at_call 181; go_split_ands; (with_reducible refine Calls.mono (comes_any x _) ?_); rintro e w3 ⟨rfl, b3⟩; rw [HCS.out]; have q3 : Below W0.heap.size W0 w3 := below_more (by assumption) b3; clear b3))
      all_goals
        try go_wp2_with fail
        go_ret
        exact ⟨by rw [HV.out]; rfl, below_more FB.out (by assumption)⟩
end Go.Proofs.Ytckcffjnffcjcaa
