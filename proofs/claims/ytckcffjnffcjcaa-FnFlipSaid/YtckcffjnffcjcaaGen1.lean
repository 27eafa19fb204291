/- Contracts of the reader of choices: next, pick, wide. Conditions: each byte is one, fewer than 1000000000 choices so far. -/
import Derived.Test.YtckcffjnffcjcaaGen0
import Derived.Test.YtckcffjnffcjcaaCut0
import Derived.Outline
set_option linter.unusedVariables false
set_option linter.unusedSimpArgs false
namespace Go.Proofs.Ytckcffjnffcjcaa
open Go.RowKit Go.Proofs.YtckcffjnffcjcaaW.PrintWords
theorem Bx.kept {W w1 : World} {b g : Nat} {vs : List Value} (h : Bx W b vs) (hk : KeepBut W w1 g none) (hne : b ≠ g) : Bx w1 b vs := by
  have e : w1.heap[b]? = W.heap[b]? := hk.2 b h.lt hne (by simp)
  refine ⟨Nat.lt_of_lt_of_le h.lt hk.1, fun i v hv => ?_, fun i => ?_⟩
  · have := h.c i v hv
    unfold World.cell? at this ⊢
    simp only at this ⊢
    rw [e]; exact this
  · have := h.f i
    unfold World.frozen? at this ⊢
    simp only at this ⊢
    rw [e]; exact this
/-- The cells of a reader behind k choices. -/
def curV (code : List Int) (A : Option Addr) (c k : Nat) : List Value := [.slice A code.length c, .int .i64 (k : Int), .int .u64 (seedAt code k)]
theorem seedAt_bd (code : List Int) : ∀ k, 0 ≤ seedAt code k ∧ seedAt code k < 18446744073709551616
  | 0 => by unfold seedAt; omega
  | k + 1 => by
    have hw : ∀ x : Int, 0 ≤ IntKind.u64.wrap x ∧ IntKind.u64.wrap x < 18446744073709551616 := fun x => by
      have e : IntKind.u64.wrap x = x % 18446744073709551616 := by first | rfl | simp [IntKind.wrap, IntKind.bits, IntKind.signed] | (unfold IntKind.wrap; rfl)
      rw [e]
      omega
    unfold seedAt
    split
    · exact hw _
    · exact hw _
theorem and_255 (E : Int) (h0 : 0 ≤ E) (h1 : E ≤ 18446744073709551615) : bits BinOp.and IntKind.u64 E 255 = E % 256 := by
  have h := bits_and_u64_nat E.toNat 255 (by omega) (by omega)
  rw [show (255 : Nat) = 2 ^ 8 - 1 from rfl, Nat.and_two_pow_sub_one_eq_mod, Int.toNat_of_nonneg h0] at h
  have h2 : ((E.toNat % 2 ^ 8 : Nat) : Int) = E % 256 := by omega
  exact h.trans h2
set_option maxRecDepth 100000 in
set_option maxHeartbeats 2000000 in
theorem next_any (code : List Int) (A : Option Addr) (c b k : Nat) (w0 w : World) (hr : Kd.C (Kd.int .u8) w0 A code.length code) (hg : GCode code) (HB : Below w0.heap.size w0 w) (hb : w0.heap.size ≤ b) (hx : Bx w b (curV code A c k)) (hk : k < 1000000000) :
    Calls Try.prog 168 #[.pointer (some ⟨b, 0, none⟩)] w
      fun e w' => e = .returned (.int .i64 (nx code k)) ∧ Bx w' b (curV code A c (k + 1)) ∧ KeepBut w w' b none ∧ Below w0.heap.size w0 w' := by
  have x0 := hx.c 0 _ rfl; have x1 := hx.c 1 _ rfl; have x2 := hx.c 2 _ rfl; have xf0 := hx.f 0; have xf1 := hx.f 1; have xf2 := hx.f 2
  have hm := hr.2.1
  have hnx := nx_bd hg k
  by_cases hlt : k < code.length
  · obtain ⟨ad0, e0, y0⟩ := at_Byte hr k hlt
    subst e0
    replace y0 := pw_cell_below HB y0
    have hs : seedAt code (k + 1) = seedW (seedAt code k) (code.getD k 0) := by show (if k < code.length then _ else _) = _; rw [if_pos hlt]
    have hn : nx code k = code.getD k 0 := by unfold nx; rw [if_pos hlt]
    rw [hn] at hnx
    have HS := Aside0.mk hs
    have HN := Aside0.mk hn
    have HX := Aside0.mk hx
    have HBB := Aside0.mk HB
    clear hs hn hx HB hr
    obtain ⟨p, hp⟩ : ∃ p, p = code.getD k 0 := ⟨_, rfl⟩
    rw [← hp] at y0 hnx
    have HP := Aside0.mk hp
    clear hp
    obtain ⟨q, hq⟩ : ∃ q, q = seedAt code k := ⟨_, rfl⟩
    rw [← hq] at x2
    have HQ := Aside0.mk hq
    clear hq
    go_enter Try.func168, Try.ntmps168
    go_wp2
    go_quiet (fail)
    go_wp2
    go_quiet (fail)
    go_wp2
    go_ret
    have e : curV code (some ad0) c (k + 1) = ((curV code (some ad0) c k).set 1 (.int .i64 ((k : Int) + 1))).set 2 (.int .u64 (IntKind.u64.wrap (IntKind.u64.wrap (IntKind.u64.wrap (q * 6364136223846793005) + p) + 1442695040888963407))) := by
      unfold curV
      rw [HS.out, ← HP.out, ← HQ.out]
      rfl
    refine ⟨by rw [HN.out, ← HP.out]; rfl, ?_, ?_, ?_⟩
    · rw [e]
      repeat (first | (with_reducible exact HX.out) | (with_reducible refine Bx.set ?_ (by simp [curV]) _) | (with_reducible refine Bx.drewN ?_ _) | (with_reducible refine Bx.drew ?_))
    · repeat (first | (with_reducible exact KeepBut.refl _ _ _) | (with_reducible refine KeepBut.set_ ?_ _ _) | (with_reducible refine keep_drewN ?_ _) | (with_reducible refine keep_drew ?_))
    · repeat (first | (with_reducible exact HBB.out) | (with_reducible refine below_set ?_ hb) | (with_reducible refine below_drewN' ?_ _) | (with_reducible refine below_drew ?_))
  · have hs : seedAt code (k + 1) = seedE (seedAt code k) := by show (if k < code.length then _ else _) = _; rw [if_neg hlt]
    have hn : nx code k = (seedAt code (k + 1) / 1099511627776) % 256 := by unfold nx; rw [if_neg hlt]
    have HS := Aside0.mk hs
    have HN := Aside0.mk hn
    have HX := Aside0.mk hx
    have HBB := Aside0.mk HB
    clear hs hn hx HB hr hnx
    have hge : decide (k < code.length) = false := by simp; omega
    clear hlt
    have HSB := Aside0.mk (seedAt_bd code (k + 1))
    have HNB := Aside0.mk (nx_bd hg k)
    obtain ⟨q, hq⟩ : ∃ q, q = seedAt code k := ⟨_, rfl⟩
    rw [← hq] at x2
    have HQ := Aside0.mk hq
    clear hq
    go_enter Try.func168, Try.ntmps168
    go_wp2
    go_quiet (fail)
    go_wp2
    go_ret
    have e1 : seedAt code (k + 1) = IntKind.u64.wrap (IntKind.u64.wrap (q * 6364136223846793005) + 1442695040888963407) := by rw [HS.out, ← HQ.out]; rfl
    have e : curV code A c (k + 1) = ((curV code A c k).set 2 (.int .u64 (IntKind.u64.wrap (IntKind.u64.wrap (q * 6364136223846793005) + 1442695040888963407)))).set 1 (.int .i64 ((k : Int) + 1)) := by
      unfold curV
      rw [e1]
      rfl
    refine ⟨?_, ?_, ?_, ?_⟩
    · have h1 := HSB.out
      have h2 := HNB.out
      rw [HN.out] at h2 ⊢
      rw [← e1]
      generalize seedAt code (k + 1) = Y at h1 h2 ⊢
      have h3 := and_255 (Y / 1099511627776) (by omega) (by omega)
      refine congrArg (fun v => Ending.returned (Value.int .i64 v)) ?_
      show RowKit.wrap64 (bits BinOp.and IntKind.u64 (Y / 1099511627776) 255) = _
      rw [h3]
      unfold RowKit.wrap64
      omega
    · rw [e]
      repeat (first | (with_reducible exact HX.out) | (with_reducible refine Bx.set ?_ (by simp [curV]) _) | (with_reducible refine Bx.drewN ?_ _) | (with_reducible refine Bx.drew ?_))
    · repeat (first | (with_reducible exact KeepBut.refl _ _ _) | (with_reducible refine KeepBut.set_ ?_ _ _) | (with_reducible refine keep_drewN ?_ _) | (with_reducible refine keep_drew ?_))
    · repeat (first | (with_reducible exact HBB.out) | (with_reducible refine below_set ?_ hb) | (with_reducible refine below_drewN' ?_ _) | (with_reducible refine below_drew ?_))

set_option maxRecDepth 100000 in
set_option maxHeartbeats 2000000 in
theorem pick_any (code : List Int) (A : Option Addr) (c b k : Nat) (n : Int) (w0 w : World) (hr : Kd.C (Kd.int .u8) w0 A code.length code) (hg : GCode code) (hB : Below w0.heap.size w0 w) (hb : w0.heap.size ≤ b) (hx : Bx w b (curV code A c k)) (hk : k < 900000000) (hn : n ≤ 1048576) :
    Calls Try.prog 109 #[.pointer (some ⟨b, 0, none⟩), .int .i64 n] w
      fun e w' => e = .returned (.int .i64 (pickV code n k)) ∧ Bx w' b (curV code A c (pickK n k)) ∧ KeepBut w w' b none ∧ Below w0.heap.size w0 w' := by
  have HR := Aside0.mk hr
  have HB := Aside0.mk hB
  have HX := Aside0.mk hx
  have hb1 := nx_bd hg k
  have hb2 := nx_bd hg (k + 1)
  clear hr hB hx
  by_cases h1 : n ≤ 1
  · have HV : Aside0 (pickV code n k = 0 ∧ pickK n k = k) := ⟨by unfold pickV pickK; rw [if_pos h1, if_pos h1]; exact ⟨rfl, rfl⟩⟩
    go_enter Try.func109, Try.ntmps109
    go_wp2
    go_ret
    rw [HV.out.1, HV.out.2]
    exact ⟨rfl, HX.out, KeepBut.refl _ _ _, HB.out⟩
  · by_cases h2 : 200 < n
    · have HV : Aside0 (pickV code n k = (nx code k * 256 + nx code (k + 1)) % n ∧ pickK n k = k + 2) := ⟨by unfold pickV pickK; rw [if_neg h1, if_neg h1, if_pos h2, if_pos h2]; exact ⟨rfl, rfl⟩⟩
      obtain ⟨q1, hq1⟩ : ∃ q, q = nx code k := ⟨_, rfl⟩
      obtain ⟨q2, hq2⟩ : ∃ q, q = nx code (k + 1) := ⟨_, rfl⟩
      rw [← hq1, ← hq2] at HV
      rw [← hq1] at hb1
      rw [← hq2] at hb2
      have Q1 := Aside0.mk hq1
      have Q2 := Aside0.mk hq2
      clear hq1 hq2
      go_enter Try.func109, Try.ntmps109
      go_wp2_with fail
      refine (next_any code A c b k w0 _ HR.out hg HB.out hb HX.out (by omega)).mono ?_
      rintro e w1 ⟨rfl, hx1, hk1, hb3⟩
      rw [← Q1.out]
      have X1 := Aside0.mk hx1; have K1 := Aside0.mk hk1; have B1 := Aside0.mk hb3; clear hx1 hk1 hb3
      go_wp2_with fail
      refine (next_any code A c b (k + 1) w0 _ HR.out hg B1.out hb X1.out (by omega)).mono ?_
      rintro e w2 ⟨rfl, hx1, hk1, hb3⟩
      rw [← Q2.out]
      have X2 := Aside0.mk hx1; have K2 := Aside0.mk (K1.out.trans hk1 (.inl rfl)); have B2 := Aside0.mk hb3; clear hx1 hk1 hb3
      go_wp2
      go_ret
      rw [HV.out.1, HV.out.2]
      exact ⟨rfl, X2.out, K2.out, B2.out⟩
    · have HV : Aside0 (pickV code n k = nx code k % n ∧ pickK n k = k + 1) := ⟨by unfold pickV pickK; rw [if_neg h1, if_neg h1, if_neg h2, if_neg h2]; exact ⟨rfl, rfl⟩⟩
      obtain ⟨q1, hq1⟩ : ∃ q, q = nx code k := ⟨_, rfl⟩
      rw [← hq1] at HV hb1
      have Q1 := Aside0.mk hq1
      clear hq1
      go_enter Try.func109, Try.ntmps109
      go_wp2_with fail
      refine (next_any code A c b k w0 _ HR.out hg HB.out hb HX.out (by omega)).mono ?_
      rintro e w1 ⟨rfl, hx1, hk1, hb3⟩
      rw [← Q1.out]
      have X1 := Aside0.mk hx1; have K1 := Aside0.mk hk1; have B1 := Aside0.mk hb3; clear hx1 hk1 hb3
      go_wp2
      go_ret
      rw [HV.out.1, HV.out.2]
      exact ⟨rfl, X1.out, K1.out, B1.out⟩
set_option maxRecDepth 100000 in
set_option maxHeartbeats 2000000 in
theorem wide_any (code : List Int) (A : Option Addr) (c b k : Nat) (n : Int) (w0 w : World) (hr : Kd.C (Kd.int .u8) w0 A code.length code) (hg : GCode code) (hB : Below w0.heap.size w0 w) (hb : w0.heap.size ≤ b) (hx : Bx w b (curV code A c k)) (hk : k < 900000000) (hn : n ≤ 100000000) (h1 : 1 ≤ n) :
    Calls Try.prog 110 #[.pointer (some ⟨b, 0, none⟩), .int .i64 n] w
      fun e w' => e = .returned (.int .i64 (wideV code n k)) ∧ Bx w' b (curV code A c (k + 2)) ∧ KeepBut w w' b none ∧ Below w0.heap.size w0 w' := by
  have HR := Aside0.mk hr
  have HB := Aside0.mk hB
  have HX := Aside0.mk hx
  have hb1 := nx_bd hg k
  have hb2 := nx_bd hg (k + 1)
  clear hr hB hx
  have HV : Aside0 (wideV code n k = (nx code k * 256 + nx code (k + 1)) % n) := ⟨rfl⟩
  obtain ⟨q1, hq1⟩ : ∃ q, q = nx code k := ⟨_, rfl⟩
  obtain ⟨q2, hq2⟩ : ∃ q, q = nx code (k + 1) := ⟨_, rfl⟩
  rw [← hq1, ← hq2] at HV
  rw [← hq1] at hb1
  rw [← hq2] at hb2
  have Q1 := Aside0.mk hq1
  have Q2 := Aside0.mk hq2
  clear hq1 hq2
  go_enter Try.func110, Try.ntmps110
  go_wp2_with fail
  refine (next_any code A c b k w0 _ HR.out hg HB.out hb HX.out (by omega)).mono ?_
  rintro e w1 ⟨rfl, hx1, hk1, hb3⟩
  rw [← Q1.out]
  have X1 := Aside0.mk hx1; have K1 := Aside0.mk hk1; have B1 := Aside0.mk hb3; clear hx1 hk1 hb3
  go_wp2_with fail
  refine (next_any code A c b (k + 1) w0 _ HR.out hg B1.out hb X1.out (by omega)).mono ?_
  rintro e w2 ⟨rfl, hx1, hk1, hb3⟩
  rw [← Q2.out]
  have X2 := Aside0.mk hx1; have K2 := Aside0.mk (K1.out.trans hk1 (.inl rfl)); have B2 := Aside0.mk hb3; clear hx1 hk1 hb3
  go_wp2
  go_ret
  rw [HV.out]
  exact ⟨rfl, X2.out, K2.out, B2.out⟩
end Go.Proofs.Ytckcffjnffcjcaa
