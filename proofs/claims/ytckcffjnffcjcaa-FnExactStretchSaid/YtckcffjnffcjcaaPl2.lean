/- Contract of slices.IndexFunc over ends with the closure of the program's pathLies. No conditions. -/
import Derived.Test.YtckcffjnffcjcaaPl1
set_option linter.unusedVariables false
set_option linter.unusedSimpArgs false
namespace Go.Proofs.Ytckcffjnffcjcaa
open Go.RowKit Go.Proofs.YtckcffjnffcjcaaW.PrintWords
set_option maxRecDepth 100000 in
set_option maxHeartbeats 4000000 in
theorem index_any (E : Option Addr) (ce : Nat) (xs : List EndT) (bs bi : Nat) (A : Option Addr) (c : Nat) (l : List StepT) (i : Nat) (w : World) (hE : Kd.C kEnd w E xs.length xs) (hb : Bx w bs [.slice A l.length c]) (hi : Bx w bi [.int .i64 (i : Int)]) (hC : Kd.C kStep w A l.length l) (hil : i < l.length) :
    Calls Try.prog 183 #[.slice E xs.length ce, .func (.func 184) #[] #[.pointer (some ⟨bs, 0, none⟩), .pointer (some ⟨bi, 0, none⟩)]] w
      fun e w' => ∃ r : Int, e = .returned (.int .i64 r) ∧ ((r = -1 ∧ ∀ x ∈ xs, comesS x ≠ l.getD i default) ∨ ∃ q : Nat, r = (q : Int) ∧ q < xs.length ∧ comesS (xs.getD q default) = l.getD i default) ∧ Below w.heap.size w w' := by
  have hm := hE.2.1
  have HE := Aside0.mk hE
  have HB := Aside0.mk hb
  have HI := Aside0.mk hi
  have HC := Aside0.mk hC
  have HL := Aside0.mk hil
  clear hE hb hi hC hil
  go_enter Try.func183, Try.ntmps183
  go_wp2_with fail
  go_loopw [8] (fun v8 wr => ∃ q : Nat, v8 = .int .i64 (q : Int) ∧ q ≤ xs.length ∧ Aside0 (∀ k, k < q → comesS (xs.getD k default) ≠ l.getD i default) ∧ Aside0 (Below w.heap.size w wr)) (fun v8 _ => xs.length - (intOf v8).toNat)
  case atStart => exact ⟨0, rfl, Nat.zero_le _, ⟨fun k hk => by omega⟩, ⟨Below.refl _ _⟩⟩
  case round =>
    obtain ⟨q, rfl, hq, HN, HBr⟩ := hrel
    by_cases hlt : q < xs.length
    · obtain ⟨ad0, e0, y0, y1⟩ := at_End HE.out q hlt
      subst e0
      replace y0 := pw_cell_below HBr.out y0
      replace y1 := pw_cell_below HBr.out y1
      obtain ⟨x, hx⟩ : ∃ x, x = xs.getD q default := ⟨_, rfl⟩
      rw [← hx] at y0 y1
      have HX := Aside0.mk hx
      clear hx
      cases hd : decide (comesS x = l.getD i default) with
      | true =>
        have HD := Aside0.mk hd
        clear hd
        go_wp2_with (go_at_call 184; (with_reducible refine Calls.mono (isStep_any x bs bi A c l i _ (HB.out.below HBr.out) (HI.out.below HBr.out) (Kd.C_below HC.out HBr.out) HL.out) ?_); rintro e w3 ⟨rfl, b3⟩; rw [HD.out]; have B3 := Aside0.mk (below_more HBr.out b3); clear b3)
        go_ret
        exact ⟨(q : Int), rfl, .inr ⟨q, rfl, hlt, by rw [← HX.out]; exact of_decide_eq_true HD.out⟩, B3.out⟩
      | false =>
        have HD := Aside0.mk hd
        clear hd
        go_wp2_with (go_at_call 184; (with_reducible refine Calls.mono (isStep_any x bs bi A c l i _ (HB.out.below HBr.out) (HI.out.below HBr.out) (Kd.C_below HC.out HBr.out) HL.out) ?_); rintro e w3 ⟨rfl, b3⟩; rw [HD.out]; have B3 := Aside0.mk (below_more HBr.out b3); clear b3)
        go_roundw
        case rel => exact ⟨q + 1, by go_num, by omega, ⟨upto_step HN.out (by rw [← HX.out]; exact of_decide_eq_false HD.out)⟩, B3⟩
        case measure => simp [intOf]; omega
    · go_wp2_with fail
      go_ret
      refine ⟨-1, rfl, .inl ⟨rfl, fun x hx => ?_⟩, HBr.out⟩
      obtain ⟨k, hk, rfl⟩ := List.mem_iff_getElem.1 hx
      have := HN.out k (by omega)
      rwa [getD_at xs k hk] at this
end Go.Proofs.Ytckcffjnffcjcaa
