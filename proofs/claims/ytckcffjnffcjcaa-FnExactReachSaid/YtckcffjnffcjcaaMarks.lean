/- Contracts of markXS and heldXS: a row is numbered anew; it holds just those numbers. Conditions: the numbers stay within Go's int. -/
import Derived.Test.YtckcffjnffcjcaaTos
set_option linter.unusedVariables false
set_option linter.unusedSimpArgs false
namespace Go.Proofs.Ytckcffjnffcjcaa
open Go.RowKit Go.Proofs.YtckcffjnffcjcaaW.PrintWords
section
variable {P : Program} {ops : Array Oper} {rest : List Oper} {o : Oper} {a : Act} {Q : Exit → Act → World → Prop} {α : Type}
/-- One cell of an element of a row of the call's own is written. -/
theorem store_field (d : Kd α) {w0 W : World} (base : Nat) (hN : o.dst = none) (hgd : o.guard = none) (t : TypeId) (p x : Operand) (ho : o.op = .store t p x) (e : TypeId) {g n cap o' : Nat} (i j : Nat) (xs : List α) (x' : α) (u : Value) (z : α) (ok : Nat → Prop)
    (haddr : a.eval p = .pointer (some ⟨g, o', none⟩)) (hoff : o' = i * d.sz + j) (hx : a.eval x = u) (hu : u.cells.toList = [u]) (h1 : u.oneCell' = true) (ht : (P.info? t).map (·.size) = some 1)
    (HO : d.R e W base ok (.slice (some ⟨g, 0, none⟩) n cap) xs) (hi : i < n) (hj : j < d.sz)
    (hM : ∀ c, d.M W base (fun k => ok k ∧ k ≠ g) (xs.getD i z) c → d.M W base (fun k => ok k ∧ k ≠ g) x' (c.take j ++ [u] ++ c.drop (j + 1))) (HB : Below base w0 W)
    (h : ∀ w1, d.R e w1 base ok (.slice (some ⟨g, 0, none⟩) n cap) (xs.set i x') → Below base w0 w1 → W.grownBy w1 (some g) → wpList P ops Q rest a w1) : wpList P ops Q (o :: rest) a W := by
  obtain ⟨c, hcl, hMc, hcc, _⟩ := Kd.R_elem HO z (i : Int) (by omega) (by omega)
  rw [Int.toNat_natCast] at hMc
  refine Kd.R_store d base hN hgd t p x ho e (i : Int) j xs x' u [u] c ok (fun k => ok k ∧ k ≠ g) haddr (by rw [hoff]; simp) hx hu (by simpa using ht) (by simpa using h1) HO (by omega) (by omega) hcl hcc (by simp; omega) (hM c hMc) (fun k hk => hk) HB ?_
  rw [Int.toNat_natCast]
  exact h
end
theorem mark_step {α : Type} [Inhabited α] {m l : List α} {i : Nat} (hm : m.length = i) (hi : i < l.length) (x : α) : (m ++ l.drop i).set i x = (m ++ [x]) ++ l.drop (i + 1) := by
  rw [List.set_append_right _ _ (by omega), hm, Nat.sub_self, List.drop_eq_getElem_cons hi, List.set_cons_zero, List.append_assoc]
  rfl
theorem set_getD {α : Type} [Inhabited α] (l : List α) (i : Nat) (x : α) (h : i < l.length) : (l.set i x).getD i default = x := by
  rw [List.getD_eq_getElem?_getD, List.getElem?_set_self (by simpa using h)]; rfl
theorem range_map_succ {α : Type} (f : Nat → α) (i : Nat) : (List.range (i + 1)).map f = (List.range i).map f ++ [f i] := by rw [List.range_succ, List.map_append]; rfl
def marksInt (k : Int) (n : Nat) : List Int := (List.range n).map (fun (i : Nat) => k + 1 * (i : Int))
theorem marksInt_length (k : Int) (n : Nat) : (marksInt k n).length = n := by unfold marksInt; simp
theorem kInt_sz : (Kd.int .i64).sz = 1 := rfl
set_option maxRecDepth 100000 in
set_option maxHeartbeats 1000000 in
theorem markIntS_any (base : Nat) (ok : Nat → Prop) (v : Value) (l : List Int) (k : Int) (w0 w : World) (hr : Kd.R (Kd.int .i64) 3 w base ok v l) (hb : Below base w0 w) (h0 : 0 ≤ k) (h1 : k + 1 * (l.length : Int) ≤ 9223372036854775800) :
    Calls Try.prog 83 #[v, .int .i64 k] w
      fun e w' => e = .returned (.int .i64 (k + 1 * (l.length : Int))) ∧ Kd.R (Kd.int .i64) 3 w' base ok v (marksInt k l.length) ∧ Below base w0 w' ∧ w.grownBy w' v.ownBlock := by
  have HR := Aside0.mk hr
  have HB0 := Aside0.mk hb
  obtain ⟨A, c, hv, _, hC⟩ := Kd.R_reads hr
  have hmx := hC.2.1
  have HBL := Aside0.mk (Kd.R_base hr)
  clear hr hb hC
  subst hv
  go_enter Try.func83, Try.ntmps83
  go_wp2
  go_loopw [1, 5] (fun v1 v5 wr => ∃ (i : Nat) (kk : Int), v5 = .int .i64 i ∧ i ≤ l.length ∧ v1 = .int .i64 kk ∧ 0 ≤ kk ∧ kk ≤ 9223372036854775800 ∧ Aside0 (kk = k + 1 * (i : Int)) ∧ Aside0 (Kd.R (Kd.int .i64) 3 wr base ok (.slice A l.length c) (marksInt k i ++ l.drop i)) ∧ Aside0 (Below base w0 wr) ∧ Aside0 (w.grownBy wr (Value.slice A l.length c).ownBlock)) (fun _ v5 _ => l.length - (intOf v5).toNat)
  case atStart => exact ⟨0, k, rfl, Nat.zero_le _, rfl, h0, by omega, ⟨by simp⟩, ⟨by simpa [marksInt] using HR.out⟩, HB0, ⟨World.grownBy.refl _ _⟩⟩
  case round =>
    clear HR HB0
    obtain ⟨i, kk, rfl, hi, rfl, hk0, hk1, HK, HO, HB, HG⟩ := hrel
    by_cases hlt : i < l.length
    · obtain ⟨L0, hL0⟩ : ∃ L0, L0 = marksInt k i ++ l.drop i := ⟨_, rfl⟩
      have hlen : L0.length = l.length := by rw [hL0, List.length_append, marksInt_length, List.length_drop]; omega
      rw [← hL0] at HO
      have HL0 := Aside0.mk hL0
      clear hL0
      obtain ⟨g, cap, ev, hg1, hg2, _⟩ := Kd.R_form HO.out (by omega)
      rw [hlen] at ev
      obtain ⟨rfl, rfl⟩ : A = some ⟨g, 0, none⟩ ∧ c = cap := by
        injection ev with e1 e2 e3
        exact ⟨e1, e3⟩
      clear ev
      obtain ⟨E0, hE0⟩ : ∃ E0, E0 = L0.getD i default := ⟨_, rfl⟩
      have HE0 := Aside0.mk hE0
      clear hE0
      have hk2 : kk + 1 ≤ 9223372036854775800 := by
        have := HK.out
        omega
      go_wp2_with (first | ((with_reducible refine gate_store (t := 3) (p := 15) rfl ?_); refine store_field (Kd.int .i64) base rfl rfl 3 _ _ rfl 3 i 0 L0 (kk : Int) (.int .i64 (kk)) default ok rfl (by simp [kInt_sz]; try rfl) rfl rfl rfl rfl HO.out hlt (by decide) (by intro c hc; rw [← HE0.out] at hc; obtain rfl := hc; rfl) HB.out ?_; intro w2 hR2 hB2 hg2))
      go_roundw
      case rel =>
        refine ⟨i + 1, kk + 1, by go_num, by omega, rfl, by omega, by omega, ⟨by rw [HK.out]; push_cast; omega⟩, ⟨?_⟩, ⟨hB2⟩, ⟨?_⟩⟩
        · have e := hR2
          rw [HL0.out, mark_step (marksInt_length k i) hlt] at e
          have e2 : marksInt k (i + 1) = marksInt k i ++ [kk] := by
            unfold marksInt
            rw [range_map_succ, ← HK.out]
            try simp [Int.add_assoc]
          rw [e2]
          exact e
        · exact (HG.out.trans (row := some g) hg2)
      case measure => simp [intOf]; omega
    · have hil : i = l.length := by omega
      subst hil
      have e := HO.out
      rw [List.drop_length, List.append_nil] at e
      have HO2 := Aside0.mk e
      have HK2 := HK
      clear e
      go_wp2
      go_ret
      exact ⟨by rw [HK2.out]; rfl, HO2.out, HB.out, HG.out⟩
def marksEnd (k : Int) (n : Nat) : List EndT := (List.range n).map (fun (i : Nat) => ⟨k + 2 * (i : Int), k + 2 * (i : Int) + 1⟩)
theorem marksEnd_length (k : Int) (n : Nat) : (marksEnd k n).length = n := by unfold marksEnd; simp
theorem kEnd_sz : kEnd.sz = 2 := rfl
set_option maxRecDepth 100000 in
set_option maxHeartbeats 1000000 in
theorem markEndS_any (base : Nat) (ok : Nat → Prop) (v : Value) (l : List EndT) (k : Int) (w0 w : World) (hr : Kd.R kEnd 67 w base ok v l) (hb : Below base w0 w) (h0 : 0 ≤ k) (h1 : k + 2 * (l.length : Int) ≤ 9223372036854775800) :
    Calls Try.prog 60 #[v, .int .i64 k] w
      fun e w' => e = .returned (.int .i64 (k + 2 * (l.length : Int))) ∧ Kd.R kEnd 67 w' base ok v (marksEnd k l.length) ∧ Below base w0 w' ∧ w.grownBy w' v.ownBlock := by
  have HR := Aside0.mk hr
  have HB0 := Aside0.mk hb
  obtain ⟨A, c, hv, _, hC⟩ := Kd.R_reads hr
  have hmx := hC.2.1
  have HBL := Aside0.mk (Kd.R_base hr)
  clear hr hb hC
  subst hv
  go_enter Try.func60, Try.ntmps60
  go_wp2
  go_loopw [1, 5] (fun v1 v5 wr => ∃ (i : Nat) (kk : Int), v5 = .int .i64 i ∧ i ≤ l.length ∧ v1 = .int .i64 kk ∧ 0 ≤ kk ∧ kk ≤ 9223372036854775800 ∧ Aside0 (kk = k + 2 * (i : Int)) ∧ Aside0 (Kd.R kEnd 67 wr base ok (.slice A l.length c) (marksEnd k i ++ l.drop i)) ∧ Aside0 (Below base w0 wr) ∧ Aside0 (w.grownBy wr (Value.slice A l.length c).ownBlock)) (fun _ v5 _ => l.length - (intOf v5).toNat)
  case atStart => exact ⟨0, k, rfl, Nat.zero_le _, rfl, h0, by omega, ⟨by simp⟩, ⟨by simpa [marksEnd] using HR.out⟩, HB0, ⟨World.grownBy.refl _ _⟩⟩
  case round =>
    clear HR HB0
    obtain ⟨i, kk, rfl, hi, rfl, hk0, hk1, HK, HO, HB, HG⟩ := hrel
    by_cases hlt : i < l.length
    · obtain ⟨L0, hL0⟩ : ∃ L0, L0 = marksEnd k i ++ l.drop i := ⟨_, rfl⟩
      have hlen : L0.length = l.length := by rw [hL0, List.length_append, marksEnd_length, List.length_drop]; omega
      rw [← hL0] at HO
      have HL0 := Aside0.mk hL0
      clear hL0
      obtain ⟨g, cap, ev, hg1, hg2, _⟩ := Kd.R_form HO.out (by omega)
      rw [hlen] at ev
      obtain ⟨rfl, rfl⟩ : A = some ⟨g, 0, none⟩ ∧ c = cap := by
        injection ev with e1 e2 e3
        exact ⟨e1, e3⟩
      clear ev
      obtain ⟨E0, hE0⟩ : ∃ E0, E0 = L0.getD i default := ⟨_, rfl⟩
      have HE0 := Aside0.mk hE0
      clear hE0
      have hk2 : kk + 2 ≤ 9223372036854775800 := by
        have := HK.out
        omega
      go_wp2_with (first | ((with_reducible refine gate_store (t := 3) (p := 16) rfl ?_); refine store_field kEnd base rfl rfl 3 _ _ rfl 67 i 0 L0 (⟨kk, E0.side⟩ : EndT) (.int .i64 (kk)) default ok rfl (by simp [kEnd_sz]; try rfl) rfl rfl rfl rfl HO.out hlt (by decide) (by intro c hc; rw [← HE0.out] at hc; obtain rfl := kEnd_openM hc; exact kEnd_mkM _ _ _ _) HB.out ?_; intro w2 hR2 hB2 hg2) | ((with_reducible refine gate_store (t := 3) (p := 23) rfl ?_); refine store_field kEnd base rfl rfl 3 _ _ rfl 67 i 1 (L0.set i (⟨kk, E0.side⟩ : EndT)) (⟨kk, kk + 1⟩ : EndT) (.int .i64 (kk + 1)) default ok rfl (by simp [kEnd_sz]; try rfl) rfl rfl rfl rfl hR2 hlt (by decide) (by intro c hc; rw [set_getD _ _ _ (by first | omega | (simp; omega))] at hc; obtain rfl := kEnd_openM hc; exact kEnd_mkM _ _ _ _) hB2 ?_; intro w3 hR3 hB3 hg3))
      go_roundw
      case rel =>
        refine ⟨i + 1, kk + 1 + 1, by go_num, by omega, rfl, by omega, by omega, ⟨by rw [HK.out]; push_cast; omega⟩, ⟨?_⟩, ⟨hB3⟩, ⟨?_⟩⟩
        · have e := hR3
          rw [List.set_set, HL0.out, mark_step (marksEnd_length k i) hlt] at e
          have e2 : marksEnd k (i + 1) = marksEnd k i ++ [⟨kk, kk + 1⟩] := by
            unfold marksEnd
            rw [range_map_succ, ← HK.out]
            try simp [Int.add_assoc]
          rw [e2]
          exact e
        · exact ((HG.out.trans (row := some g) hg2).trans (row := some g) hg3)
      case measure => simp [intOf]; omega
    · have hil : i = l.length := by omega
      subst hil
      have e := HO.out
      rw [List.drop_length, List.append_nil] at e
      have HO2 := Aside0.mk e
      have HK2 := HK
      clear e
      go_wp2
      go_ret
      exact ⟨by rw [HK2.out]; rfl, HO2.out, HB.out, HG.out⟩
def marksPart (k : Int) (n : Nat) : List PartT := (List.range n).map (fun (i : Nat) => ⟨k + 3 * (i : Int), k + 3 * (i : Int) + 1, k + 3 * (i : Int) + 2⟩)
theorem marksPart_length (k : Int) (n : Nat) : (marksPart k n).length = n := by unfold marksPart; simp
theorem kPart_sz : kPart.sz = 3 := rfl
set_option maxRecDepth 100000 in
set_option maxHeartbeats 1000000 in
theorem markPartS_any (base : Nat) (ok : Nat → Prop) (v : Value) (l : List PartT) (k : Int) (w0 w : World) (hr : Kd.R kPart 89 w base ok v l) (hb : Below base w0 w) (h0 : 0 ≤ k) (h1 : k + 3 * (l.length : Int) ≤ 9223372036854775800) :
    Calls Try.prog 84 #[v, .int .i64 k] w
      fun e w' => e = .returned (.int .i64 (k + 3 * (l.length : Int))) ∧ Kd.R kPart 89 w' base ok v (marksPart k l.length) ∧ Below base w0 w' ∧ w.grownBy w' v.ownBlock := by
  have HR := Aside0.mk hr
  have HB0 := Aside0.mk hb
  obtain ⟨A, c, hv, _, hC⟩ := Kd.R_reads hr
  have hmx := hC.2.1
  have HBL := Aside0.mk (Kd.R_base hr)
  clear hr hb hC
  subst hv
  go_enter Try.func84, Try.ntmps84
  go_wp2
  go_loopw [1, 5] (fun v1 v5 wr => ∃ (i : Nat) (kk : Int), v5 = .int .i64 i ∧ i ≤ l.length ∧ v1 = .int .i64 kk ∧ 0 ≤ kk ∧ kk ≤ 9223372036854775800 ∧ Aside0 (kk = k + 3 * (i : Int)) ∧ Aside0 (Kd.R kPart 89 wr base ok (.slice A l.length c) (marksPart k i ++ l.drop i)) ∧ Aside0 (Below base w0 wr) ∧ Aside0 (w.grownBy wr (Value.slice A l.length c).ownBlock)) (fun _ v5 _ => l.length - (intOf v5).toNat)
  case atStart => exact ⟨0, k, rfl, Nat.zero_le _, rfl, h0, by omega, ⟨by simp⟩, ⟨by simpa [marksPart] using HR.out⟩, HB0, ⟨World.grownBy.refl _ _⟩⟩
  case round =>
    clear HR HB0
    obtain ⟨i, kk, rfl, hi, rfl, hk0, hk1, HK, HO, HB, HG⟩ := hrel
    by_cases hlt : i < l.length
    · obtain ⟨L0, hL0⟩ : ∃ L0, L0 = marksPart k i ++ l.drop i := ⟨_, rfl⟩
      have hlen : L0.length = l.length := by rw [hL0, List.length_append, marksPart_length, List.length_drop]; omega
      rw [← hL0] at HO
      have HL0 := Aside0.mk hL0
      clear hL0
      obtain ⟨g, cap, ev, hg1, hg2, _⟩ := Kd.R_form HO.out (by omega)
      rw [hlen] at ev
      obtain ⟨rfl, rfl⟩ : A = some ⟨g, 0, none⟩ ∧ c = cap := by
        injection ev with e1 e2 e3
        exact ⟨e1, e3⟩
      clear ev
      obtain ⟨E0, hE0⟩ : ∃ E0, E0 = L0.getD i default := ⟨_, rfl⟩
      have HE0 := Aside0.mk hE0
      clear hE0
      have hk2 : kk + 3 ≤ 9223372036854775800 := by
        have := HK.out
        omega
      go_wp2_with (first | ((with_reducible refine gate_store (t := 3) (p := 16) rfl ?_); refine store_field kPart base rfl rfl 3 _ _ rfl 89 i 0 L0 (⟨kk, E0.frm, E0.upto⟩ : PartT) (.int .i64 (kk)) default ok rfl (by simp [kPart_sz]; try rfl) rfl rfl rfl rfl HO.out hlt (by decide) (by intro c hc; rw [← HE0.out] at hc; obtain rfl := kPart_openM hc; exact kPart_mkM _ _ _ _) HB.out ?_; intro w2 hR2 hB2 hg2) | ((with_reducible refine gate_store (t := 3) (p := 23) rfl ?_); refine store_field kPart base rfl rfl 3 _ _ rfl 89 i 1 (L0.set i (⟨kk, E0.frm, E0.upto⟩ : PartT)) (⟨kk, kk + 1, E0.upto⟩ : PartT) (.int .i64 (kk + 1)) default ok rfl (by simp [kPart_sz]; try rfl) rfl rfl rfl rfl hR2 hlt (by decide) (by intro c hc; rw [set_getD _ _ _ (by first | omega | (simp; omega))] at hc; obtain rfl := kPart_openM hc; exact kPart_mkM _ _ _ _) hB2 ?_; intro w3 hR3 hB3 hg3) | ((with_reducible refine gate_store (t := 3) (p := 30) rfl ?_); refine store_field kPart base rfl rfl 3 _ _ rfl 89 i 2 ((L0.set i (⟨kk, E0.frm, E0.upto⟩ : PartT)).set i (⟨kk, kk + 1, E0.upto⟩ : PartT)) (⟨kk, kk + 1, kk + 1 + 1⟩ : PartT) (.int .i64 (kk + 1 + 1)) default ok rfl (by simp [kPart_sz]; try rfl) rfl rfl rfl rfl hR3 hlt (by decide) (by intro c hc; rw [set_getD _ _ _ (by first | omega | (simp; omega))] at hc; obtain rfl := kPart_openM hc; exact kPart_mkM _ _ _ _) hB3 ?_; intro w4 hR4 hB4 hg4))
      go_roundw
      case rel =>
        refine ⟨i + 1, kk + 1 + 1 + 1, by go_num, by omega, rfl, by omega, by omega, ⟨by rw [HK.out]; push_cast; omega⟩, ⟨?_⟩, ⟨hB4⟩, ⟨?_⟩⟩
        · have e := hR4
          rw [List.set_set, List.set_set, HL0.out, mark_step (marksPart_length k i) hlt] at e
          have e2 : marksPart k (i + 1) = marksPart k i ++ [⟨kk, kk + 1, kk + 1 + 1⟩] := by
            unfold marksPart
            rw [range_map_succ, ← HK.out]
            try simp [Int.add_assoc]
          rw [e2]
          exact e
        · exact (((HG.out.trans (row := some g) hg2).trans (row := some g) hg3).trans (row := some g) hg4)
      case measure => simp [intOf]; omega
    · have hil : i = l.length := by omega
      subst hil
      have e := HO.out
      rw [List.drop_length, List.append_nil] at e
      have HO2 := Aside0.mk e
      have HK2 := HK
      clear e
      go_wp2
      go_ret
      exact ⟨by rw [HK2.out]; rfl, HO2.out, HB.out, HG.out⟩
def marksStep (k : Int) (n : Nat) : List StepT := (List.range n).map (fun (i : Nat) => ⟨k + 2 * (i : Int), k + 2 * (i : Int) + 1⟩)
theorem marksStep_length (k : Int) (n : Nat) : (marksStep k n).length = n := by unfold marksStep; simp
theorem kStep_sz : kStep.sz = 2 := rfl
set_option maxRecDepth 100000 in
set_option maxHeartbeats 1000000 in
theorem markStepS_any (base : Nat) (ok : Nat → Prop) (v : Value) (l : List StepT) (k : Int) (w0 w : World) (hr : Kd.R kStep 85 w base ok v l) (hb : Below base w0 w) (h0 : 0 ≤ k) (h1 : k + 2 * (l.length : Int) ≤ 9223372036854775800) :
    Calls Try.prog 80 #[v, .int .i64 k] w
      fun e w' => e = .returned (.int .i64 (k + 2 * (l.length : Int))) ∧ Kd.R kStep 85 w' base ok v (marksStep k l.length) ∧ Below base w0 w' ∧ w.grownBy w' v.ownBlock := by
  have HR := Aside0.mk hr
  have HB0 := Aside0.mk hb
  obtain ⟨A, c, hv, _, hC⟩ := Kd.R_reads hr
  have hmx := hC.2.1
  have HBL := Aside0.mk (Kd.R_base hr)
  clear hr hb hC
  subst hv
  go_enter Try.func80, Try.ntmps80
  go_wp2
  go_loopw [1, 5] (fun v1 v5 wr => ∃ (i : Nat) (kk : Int), v5 = .int .i64 i ∧ i ≤ l.length ∧ v1 = .int .i64 kk ∧ 0 ≤ kk ∧ kk ≤ 9223372036854775800 ∧ Aside0 (kk = k + 2 * (i : Int)) ∧ Aside0 (Kd.R kStep 85 wr base ok (.slice A l.length c) (marksStep k i ++ l.drop i)) ∧ Aside0 (Below base w0 wr) ∧ Aside0 (w.grownBy wr (Value.slice A l.length c).ownBlock)) (fun _ v5 _ => l.length - (intOf v5).toNat)
  case atStart => exact ⟨0, k, rfl, Nat.zero_le _, rfl, h0, by omega, ⟨by simp⟩, ⟨by simpa [marksStep] using HR.out⟩, HB0, ⟨World.grownBy.refl _ _⟩⟩
  case round =>
    clear HR HB0
    obtain ⟨i, kk, rfl, hi, rfl, hk0, hk1, HK, HO, HB, HG⟩ := hrel
    by_cases hlt : i < l.length
    · obtain ⟨L0, hL0⟩ : ∃ L0, L0 = marksStep k i ++ l.drop i := ⟨_, rfl⟩
      have hlen : L0.length = l.length := by rw [hL0, List.length_append, marksStep_length, List.length_drop]; omega
      rw [← hL0] at HO
      have HL0 := Aside0.mk hL0
      clear hL0
      obtain ⟨g, cap, ev, hg1, hg2, _⟩ := Kd.R_form HO.out (by omega)
      rw [hlen] at ev
      obtain ⟨rfl, rfl⟩ : A = some ⟨g, 0, none⟩ ∧ c = cap := by
        injection ev with e1 e2 e3
        exact ⟨e1, e3⟩
      clear ev
      obtain ⟨E0, hE0⟩ : ∃ E0, E0 = L0.getD i default := ⟨_, rfl⟩
      have HE0 := Aside0.mk hE0
      clear hE0
      have hk2 : kk + 2 ≤ 9223372036854775800 := by
        have := HK.out
        omega
      go_wp2_with (first | ((with_reducible refine gate_store (t := 3) (p := 16) rfl ?_); refine store_field kStep base rfl rfl 3 _ _ rfl 85 i 0 L0 (⟨kk, E0.way⟩ : StepT) (.int .i64 (kk)) default ok rfl (by simp [kStep_sz]; try rfl) rfl rfl rfl rfl HO.out hlt (by decide) (by intro c hc; rw [← HE0.out] at hc; obtain rfl := kStep_openM hc; exact kStep_mkM _ _ _ _) HB.out ?_; intro w2 hR2 hB2 hg2) | ((with_reducible refine gate_store (t := 3) (p := 23) rfl ?_); refine store_field kStep base rfl rfl 3 _ _ rfl 85 i 1 (L0.set i (⟨kk, E0.way⟩ : StepT)) (⟨kk, kk + 1⟩ : StepT) (.int .i64 (kk + 1)) default ok rfl (by simp [kStep_sz]; try rfl) rfl rfl rfl rfl hR2 hlt (by decide) (by intro c hc; rw [set_getD _ _ _ (by first | omega | (simp; omega))] at hc; obtain rfl := kStep_openM hc; exact kStep_mkM _ _ _ _) hB2 ?_; intro w3 hR3 hB3 hg3))
      go_roundw
      case rel =>
        refine ⟨i + 1, kk + 1 + 1, by go_num, by omega, rfl, by omega, by omega, ⟨by rw [HK.out]; push_cast; omega⟩, ⟨?_⟩, ⟨hB3⟩, ⟨?_⟩⟩
        · have e := hR3
          rw [List.set_set, HL0.out, mark_step (marksStep_length k i) hlt] at e
          have e2 : marksStep k (i + 1) = marksStep k i ++ [⟨kk, kk + 1⟩] := by
            unfold marksStep
            rw [range_map_succ, ← HK.out]
            try simp [Int.add_assoc]
          rw [e2]
          exact e
        · exact ((HG.out.trans (row := some g) hg2).trans (row := some g) hg3)
      case measure => simp [intOf]; omega
    · have hil : i = l.length := by omega
      subst hil
      have e := HO.out
      rw [List.drop_length, List.append_nil] at e
      have HO2 := Aside0.mk e
      have HK2 := HK
      clear e
      go_wp2
      go_ret
      exact ⟨by rw [HK2.out]; rfl, HO2.out, HB.out, HG.out⟩
def marksLie (k : Int) (n : Nat) : List LieT := (List.range n).map (fun (i : Nat) => ⟨k + 2 * (i : Int), k + 2 * (i : Int) + 1⟩)
theorem marksLie_length (k : Int) (n : Nat) : (marksLie k n).length = n := by unfold marksLie; simp
theorem kLie_sz : kLie.sz = 2 := rfl
set_option maxRecDepth 100000 in
set_option maxHeartbeats 1000000 in
theorem markLieS_any (base : Nat) (ok : Nat → Prop) (v : Value) (l : List LieT) (k : Int) (w0 w : World) (hr : Kd.R kLie 111 w base ok v l) (hb : Below base w0 w) (h0 : 0 ≤ k) (h1 : k + 2 * (l.length : Int) ≤ 9223372036854775800) :
    Calls Try.prog 81 #[v, .int .i64 k] w
      fun e w' => e = .returned (.int .i64 (k + 2 * (l.length : Int))) ∧ Kd.R kLie 111 w' base ok v (marksLie k l.length) ∧ Below base w0 w' ∧ w.grownBy w' v.ownBlock := by
  have HR := Aside0.mk hr
  have HB0 := Aside0.mk hb
  obtain ⟨A, c, hv, _, hC⟩ := Kd.R_reads hr
  have hmx := hC.2.1
  have HBL := Aside0.mk (Kd.R_base hr)
  clear hr hb hC
  subst hv
  go_enter Try.func81, Try.ntmps81
  go_wp2
  go_loopw [1, 5] (fun v1 v5 wr => ∃ (i : Nat) (kk : Int), v5 = .int .i64 i ∧ i ≤ l.length ∧ v1 = .int .i64 kk ∧ 0 ≤ kk ∧ kk ≤ 9223372036854775800 ∧ Aside0 (kk = k + 2 * (i : Int)) ∧ Aside0 (Kd.R kLie 111 wr base ok (.slice A l.length c) (marksLie k i ++ l.drop i)) ∧ Aside0 (Below base w0 wr) ∧ Aside0 (w.grownBy wr (Value.slice A l.length c).ownBlock)) (fun _ v5 _ => l.length - (intOf v5).toNat)
  case atStart => exact ⟨0, k, rfl, Nat.zero_le _, rfl, h0, by omega, ⟨by simp⟩, ⟨by simpa [marksLie] using HR.out⟩, HB0, ⟨World.grownBy.refl _ _⟩⟩
  case round =>
    clear HR HB0
    obtain ⟨i, kk, rfl, hi, rfl, hk0, hk1, HK, HO, HB, HG⟩ := hrel
    by_cases hlt : i < l.length
    · obtain ⟨L0, hL0⟩ : ∃ L0, L0 = marksLie k i ++ l.drop i := ⟨_, rfl⟩
      have hlen : L0.length = l.length := by rw [hL0, List.length_append, marksLie_length, List.length_drop]; omega
      rw [← hL0] at HO
      have HL0 := Aside0.mk hL0
      clear hL0
      obtain ⟨g, cap, ev, hg1, hg2, _⟩ := Kd.R_form HO.out (by omega)
      rw [hlen] at ev
      obtain ⟨rfl, rfl⟩ : A = some ⟨g, 0, none⟩ ∧ c = cap := by
        injection ev with e1 e2 e3
        exact ⟨e1, e3⟩
      clear ev
      obtain ⟨E0, hE0⟩ : ∃ E0, E0 = L0.getD i default := ⟨_, rfl⟩
      have HE0 := Aside0.mk hE0
      clear hE0
      have hk2 : kk + 2 ≤ 9223372036854775800 := by
        have := HK.out
        omega
      go_wp2_with (first | ((with_reducible refine gate_store (t := 3) (p := 16) rfl ?_); refine store_field kLie base rfl rfl 3 _ _ rfl 111 i 0 L0 (⟨kk, E0.lie⟩ : LieT) (.int .i64 (kk)) default ok rfl (by simp [kLie_sz]; try rfl) rfl rfl rfl rfl HO.out hlt (by decide) (by intro c hc; rw [← HE0.out] at hc; obtain rfl := kLie_openM hc; exact kLie_mkM _ _ _ _) HB.out ?_; intro w2 hR2 hB2 hg2) | ((with_reducible refine gate_store (t := 3) (p := 23) rfl ?_); refine store_field kLie base rfl rfl 3 _ _ rfl 111 i 1 (L0.set i (⟨kk, E0.lie⟩ : LieT)) (⟨kk, kk + 1⟩ : LieT) (.int .i64 (kk + 1)) default ok rfl (by simp [kLie_sz]; try rfl) rfl rfl rfl rfl hR2 hlt (by decide) (by intro c hc; rw [set_getD _ _ _ (by first | omega | (simp; omega))] at hc; obtain rfl := kLie_openM hc; exact kLie_mkM _ _ _ _) hB2 ?_; intro w3 hR3 hB3 hg3))
      go_roundw
      case rel =>
        refine ⟨i + 1, kk + 1 + 1, by go_num, by omega, rfl, by omega, by omega, ⟨by rw [HK.out]; push_cast; omega⟩, ⟨?_⟩, ⟨hB3⟩, ⟨?_⟩⟩
        · have e := hR3
          rw [List.set_set, HL0.out, mark_step (marksLie_length k i) hlt] at e
          have e2 : marksLie k (i + 1) = marksLie k i ++ [⟨kk, kk + 1⟩] := by
            unfold marksLie
            rw [range_map_succ, ← HK.out]
            try simp [Int.add_assoc]
          rw [e2]
          exact e
        · exact ((HG.out.trans (row := some g) hg2).trans (row := some g) hg3)
      case measure => simp [intOf]; omega
    · have hil : i = l.length := by omega
      subst hil
      have e := HO.out
      rw [List.drop_length, List.append_nil] at e
      have HO2 := Aside0.mk e
      have HK2 := HK
      clear e
      go_wp2
      go_ret
      exact ⟨by rw [HK2.out]; rfl, HO2.out, HB.out, HG.out⟩
def marksSpot (k : Int) (n : Nat) : List SpotT := (List.range n).map (fun (i : Nat) => ⟨k + 3 * (i : Int), k + 3 * (i : Int) + 1, k + 3 * (i : Int) + 2⟩)
theorem marksSpot_length (k : Int) (n : Nat) : (marksSpot k n).length = n := by unfold marksSpot; simp
theorem kSpot_sz : kSpot.sz = 3 := rfl
set_option maxRecDepth 100000 in
set_option maxHeartbeats 1000000 in
theorem markSpotS_any (base : Nat) (ok : Nat → Prop) (v : Value) (l : List SpotT) (k : Int) (w0 w : World) (hr : Kd.R kSpot 38 w base ok v l) (hb : Below base w0 w) (h0 : 0 ≤ k) (h1 : k + 3 * (l.length : Int) ≤ 9223372036854775800) :
    Calls Try.prog 102 #[v, .int .i64 k] w
      fun e w' => e = .returned (.int .i64 (k + 3 * (l.length : Int))) ∧ Kd.R kSpot 38 w' base ok v (marksSpot k l.length) ∧ Below base w0 w' ∧ w.grownBy w' v.ownBlock := by
  have HR := Aside0.mk hr
  have HB0 := Aside0.mk hb
  obtain ⟨A, c, hv, _, hC⟩ := Kd.R_reads hr
  have hmx := hC.2.1
  have HBL := Aside0.mk (Kd.R_base hr)
  clear hr hb hC
  subst hv
  go_enter Try.func102, Try.ntmps102
  go_wp2
  go_loopw [1, 5] (fun v1 v5 wr => ∃ (i : Nat) (kk : Int), v5 = .int .i64 i ∧ i ≤ l.length ∧ v1 = .int .i64 kk ∧ 0 ≤ kk ∧ kk ≤ 9223372036854775800 ∧ Aside0 (kk = k + 3 * (i : Int)) ∧ Aside0 (Kd.R kSpot 38 wr base ok (.slice A l.length c) (marksSpot k i ++ l.drop i)) ∧ Aside0 (Below base w0 wr) ∧ Aside0 (w.grownBy wr (Value.slice A l.length c).ownBlock)) (fun _ v5 _ => l.length - (intOf v5).toNat)
  case atStart => exact ⟨0, k, rfl, Nat.zero_le _, rfl, h0, by omega, ⟨by simp⟩, ⟨by simpa [marksSpot] using HR.out⟩, HB0, ⟨World.grownBy.refl _ _⟩⟩
  case round =>
    clear HR HB0
    obtain ⟨i, kk, rfl, hi, rfl, hk0, hk1, HK, HO, HB, HG⟩ := hrel
    by_cases hlt : i < l.length
    · obtain ⟨L0, hL0⟩ : ∃ L0, L0 = marksSpot k i ++ l.drop i := ⟨_, rfl⟩
      have hlen : L0.length = l.length := by rw [hL0, List.length_append, marksSpot_length, List.length_drop]; omega
      rw [← hL0] at HO
      have HL0 := Aside0.mk hL0
      clear hL0
      obtain ⟨g, cap, ev, hg1, hg2, _⟩ := Kd.R_form HO.out (by omega)
      rw [hlen] at ev
      obtain ⟨rfl, rfl⟩ : A = some ⟨g, 0, none⟩ ∧ c = cap := by
        injection ev with e1 e2 e3
        exact ⟨e1, e3⟩
      clear ev
      obtain ⟨E0, hE0⟩ : ∃ E0, E0 = L0.getD i default := ⟨_, rfl⟩
      have HE0 := Aside0.mk hE0
      clear hE0
      have hk2 : kk + 3 ≤ 9223372036854775800 := by
        have := HK.out
        omega
      go_wp2_with (first | ((with_reducible refine gate_store (t := 3) (p := 16) rfl ?_); refine store_field kSpot base rfl rfl 3 _ _ rfl 38 i 0 L0 (⟨kk, E0.at_, E0.way⟩ : SpotT) (.int .i64 (kk)) default ok rfl (by simp [kSpot_sz]; try rfl) rfl rfl rfl rfl HO.out hlt (by decide) (by intro c hc; rw [← HE0.out] at hc; obtain rfl := kSpot_openM hc; exact kSpot_mkM _ _ _ _) HB.out ?_; intro w2 hR2 hB2 hg2) | ((with_reducible refine gate_store (t := 3) (p := 23) rfl ?_); refine store_field kSpot base rfl rfl 3 _ _ rfl 38 i 1 (L0.set i (⟨kk, E0.at_, E0.way⟩ : SpotT)) (⟨kk, kk + 1, E0.way⟩ : SpotT) (.int .i64 (kk + 1)) default ok rfl (by simp [kSpot_sz]; try rfl) rfl rfl rfl rfl hR2 hlt (by decide) (by intro c hc; rw [set_getD _ _ _ (by first | omega | (simp; omega))] at hc; obtain rfl := kSpot_openM hc; exact kSpot_mkM _ _ _ _) hB2 ?_; intro w3 hR3 hB3 hg3) | ((with_reducible refine gate_store (t := 3) (p := 30) rfl ?_); refine store_field kSpot base rfl rfl 3 _ _ rfl 38 i 2 ((L0.set i (⟨kk, E0.at_, E0.way⟩ : SpotT)).set i (⟨kk, kk + 1, E0.way⟩ : SpotT)) (⟨kk, kk + 1, kk + 1 + 1⟩ : SpotT) (.int .i64 (kk + 1 + 1)) default ok rfl (by simp [kSpot_sz]; try rfl) rfl rfl rfl rfl hR3 hlt (by decide) (by intro c hc; rw [set_getD _ _ _ (by first | omega | (simp; omega))] at hc; obtain rfl := kSpot_openM hc; exact kSpot_mkM _ _ _ _) hB3 ?_; intro w4 hR4 hB4 hg4))
      go_roundw
      case rel =>
        refine ⟨i + 1, kk + 1 + 1 + 1, by go_num, by omega, rfl, by omega, by omega, ⟨by rw [HK.out]; push_cast; omega⟩, ⟨?_⟩, ⟨hB4⟩, ⟨?_⟩⟩
        · have e := hR4
          rw [List.set_set, List.set_set, HL0.out, mark_step (marksSpot_length k i) hlt] at e
          have e2 : marksSpot k (i + 1) = marksSpot k i ++ [⟨kk, kk + 1, kk + 1 + 1⟩] := by
            unfold marksSpot
            rw [range_map_succ, ← HK.out]
            try simp [Int.add_assoc]
          rw [e2]
          exact e
        · exact (((HG.out.trans (row := some g) hg2).trans (row := some g) hg3).trans (row := some g) hg4)
      case measure => simp [intOf]; omega
    · have hil : i = l.length := by omega
      subst hil
      have e := HO.out
      rw [List.drop_length, List.append_nil] at e
      have HO2 := Aside0.mk e
      have HK2 := HK
      clear e
      go_wp2
      go_ret
      exact ⟨by rw [HK2.out]; rfl, HO2.out, HB.out, HG.out⟩
set_option maxRecDepth 100000 in
theorem heldEndS_any (A : Option Addr) (c : Nat) (l : List EndT) (k : Int) (w : World) (hr : Kd.C kEnd w A l.length l) (hl : l = marksEnd k l.length) (h0 : 0 ≤ k) (h1 : k + 2 * (l.length : Int) ≤ 9223372036854775800) :
    Calls Try.prog 61 #[.slice A l.length c, .int .i64 k] w
      fun e w' => e = .returned (.int .i64 (k + 2 * (l.length : Int))) ∧ Below w.heap.size w w' := by
  have hm := hr.2.1
  have HR := Aside0.mk hr
  have HL := Aside0.mk hl
  clear hr hl
  go_enter Try.func61, Try.ntmps61
  go_wp2
  go_loopw [1, 5] (fun v1 v5 wr => ∃ (i : Nat) (kk : Int), v5 = .int .i64 i ∧ i ≤ l.length ∧ v1 = .int .i64 kk ∧ 0 ≤ kk ∧ kk ≤ 9223372036854775800 ∧ Aside0 (kk = k + 2 * (i : Int)) ∧ Aside0 (Below w.heap.size w wr)) (fun _ v5 _ => l.length - (intOf v5).toNat)
  case atStart => exact ⟨0, k, rfl, Nat.zero_le _, rfl, h0, by omega, ⟨by simp⟩, ⟨Below.refl _ _⟩⟩
  case round =>
    obtain ⟨i, kk, rfl, hi, rfl, hk0, hk1, HK, HB⟩ := hrel
    by_cases hlt : i < l.length
    · obtain ⟨ad0, e0, x0, x1⟩ := at_End HR.out i hlt
      subst e0
      have hk2 : kk + 2 ≤ 9223372036854775800 := by have := HK.out; omega
      have hE : l.getD i default = ⟨kk, kk + 1⟩ := by
        have h1 := congrArg (fun z => z.getD i default) HL.out
        rw [h1]
        unfold marksEnd
        rw [getD_at _ _ (by simpa using hlt)]
        simp [HK.out, Int.add_assoc]
      rw [hE] at x0 x1
      clear hE
      replace x0 := pw_cell_below HB.out x0
      replace x1 := pw_cell_below HB.out x1
      go_wp2
      go_roundw
      case rel => exact ⟨i + 1, kk + 1 + 1, by go_num, by omega, rfl, by omega, by omega, ⟨by rw [HK.out]; push_cast; omega⟩, HB⟩
      case measure => simp [intOf]; omega
    · have hil : i = l.length := by omega
      subst hil
      have HK2 := HK
      go_wp2
      go_ret
      exact ⟨by rw [HK2.out]; rfl, HB.out⟩
set_option maxRecDepth 100000 in
theorem heldPartS_any (A : Option Addr) (c : Nat) (l : List PartT) (k : Int) (w : World) (hr : Kd.C kPart w A l.length l) (hl : l = marksPart k l.length) (h0 : 0 ≤ k) (h1 : k + 3 * (l.length : Int) ≤ 9223372036854775800) :
    Calls Try.prog 85 #[.slice A l.length c, .int .i64 k] w
      fun e w' => e = .returned (.int .i64 (k + 3 * (l.length : Int))) ∧ Below w.heap.size w w' := by
  have hm := hr.2.1
  have HR := Aside0.mk hr
  have HL := Aside0.mk hl
  clear hr hl
  go_enter Try.func85, Try.ntmps85
  go_wp2
  go_loopw [1, 5] (fun v1 v5 wr => ∃ (i : Nat) (kk : Int), v5 = .int .i64 i ∧ i ≤ l.length ∧ v1 = .int .i64 kk ∧ 0 ≤ kk ∧ kk ≤ 9223372036854775800 ∧ Aside0 (kk = k + 3 * (i : Int)) ∧ Aside0 (Below w.heap.size w wr)) (fun _ v5 _ => l.length - (intOf v5).toNat)
  case atStart => exact ⟨0, k, rfl, Nat.zero_le _, rfl, h0, by omega, ⟨by simp⟩, ⟨Below.refl _ _⟩⟩
  case round =>
    obtain ⟨i, kk, rfl, hi, rfl, hk0, hk1, HK, HB⟩ := hrel
    by_cases hlt : i < l.length
    · obtain ⟨ad0, e0, x0, x1, x2⟩ := at_Part HR.out i hlt
      subst e0
      have hk2 : kk + 3 ≤ 9223372036854775800 := by have := HK.out; omega
      have hE : l.getD i default = ⟨kk, kk + 1, kk + 1 + 1⟩ := by
        have h1 := congrArg (fun z => z.getD i default) HL.out
        rw [h1]
        unfold marksPart
        rw [getD_at _ _ (by simpa using hlt)]
        simp [HK.out, Int.add_assoc]
      rw [hE] at x0 x1 x2
      clear hE
      replace x0 := pw_cell_below HB.out x0
      replace x1 := pw_cell_below HB.out x1
      replace x2 := pw_cell_below HB.out x2
      go_wp2
      go_roundw
      case rel => exact ⟨i + 1, kk + 1 + 1 + 1, by go_num, by omega, rfl, by omega, by omega, ⟨by rw [HK.out]; push_cast; omega⟩, HB⟩
      case measure => simp [intOf]; omega
    · have hil : i = l.length := by omega
      subst hil
      have HK2 := HK
      go_wp2
      go_ret
      exact ⟨by rw [HK2.out]; rfl, HB.out⟩
set_option maxRecDepth 100000 in
theorem heldStepS_any (A : Option Addr) (c : Nat) (l : List StepT) (k : Int) (w : World) (hr : Kd.C kStep w A l.length l) (hl : l = marksStep k l.length) (h0 : 0 ≤ k) (h1 : k + 2 * (l.length : Int) ≤ 9223372036854775800) :
    Calls Try.prog 151 #[.slice A l.length c, .int .i64 k] w
      fun e w' => e = .returned (.int .i64 (k + 2 * (l.length : Int))) ∧ Below w.heap.size w w' := by
  have hm := hr.2.1
  have HR := Aside0.mk hr
  have HL := Aside0.mk hl
  clear hr hl
  go_enter Try.func151, Try.ntmps151
  go_wp2
  go_loopw [1, 5] (fun v1 v5 wr => ∃ (i : Nat) (kk : Int), v5 = .int .i64 i ∧ i ≤ l.length ∧ v1 = .int .i64 kk ∧ 0 ≤ kk ∧ kk ≤ 9223372036854775800 ∧ Aside0 (kk = k + 2 * (i : Int)) ∧ Aside0 (Below w.heap.size w wr)) (fun _ v5 _ => l.length - (intOf v5).toNat)
  case atStart => exact ⟨0, k, rfl, Nat.zero_le _, rfl, h0, by omega, ⟨by simp⟩, ⟨Below.refl _ _⟩⟩
  case round =>
    obtain ⟨i, kk, rfl, hi, rfl, hk0, hk1, HK, HB⟩ := hrel
    by_cases hlt : i < l.length
    · obtain ⟨ad0, e0, x0, x1⟩ := at_Step HR.out i hlt
      subst e0
      have hk2 : kk + 2 ≤ 9223372036854775800 := by have := HK.out; omega
      have hE : l.getD i default = ⟨kk, kk + 1⟩ := by
        have h1 := congrArg (fun z => z.getD i default) HL.out
        rw [h1]
        unfold marksStep
        rw [getD_at _ _ (by simpa using hlt)]
        simp [HK.out, Int.add_assoc]
      rw [hE] at x0 x1
      clear hE
      replace x0 := pw_cell_below HB.out x0
      replace x1 := pw_cell_below HB.out x1
      go_wp2
      go_roundw
      case rel => exact ⟨i + 1, kk + 1 + 1, by go_num, by omega, rfl, by omega, by omega, ⟨by rw [HK.out]; push_cast; omega⟩, HB⟩
      case measure => simp [intOf]; omega
    · have hil : i = l.length := by omega
      subst hil
      have HK2 := HK
      go_wp2
      go_ret
      exact ⟨by rw [HK2.out]; rfl, HB.out⟩
set_option maxRecDepth 100000 in
theorem heldLieS_any (A : Option Addr) (c : Nat) (l : List LieT) (k : Int) (w : World) (hr : Kd.C kLie w A l.length l) (hl : l = marksLie k l.length) (h0 : 0 ≤ k) (h1 : k + 2 * (l.length : Int) ≤ 9223372036854775800) :
    Calls Try.prog 82 #[.slice A l.length c, .int .i64 k] w
      fun e w' => e = .returned (.int .i64 (k + 2 * (l.length : Int))) ∧ Below w.heap.size w w' := by
  have hm := hr.2.1
  have HR := Aside0.mk hr
  have HL := Aside0.mk hl
  clear hr hl
  go_enter Try.func82, Try.ntmps82
  go_wp2
  go_loopw [1, 5] (fun v1 v5 wr => ∃ (i : Nat) (kk : Int), v5 = .int .i64 i ∧ i ≤ l.length ∧ v1 = .int .i64 kk ∧ 0 ≤ kk ∧ kk ≤ 9223372036854775800 ∧ Aside0 (kk = k + 2 * (i : Int)) ∧ Aside0 (Below w.heap.size w wr)) (fun _ v5 _ => l.length - (intOf v5).toNat)
  case atStart => exact ⟨0, k, rfl, Nat.zero_le _, rfl, h0, by omega, ⟨by simp⟩, ⟨Below.refl _ _⟩⟩
  case round =>
    obtain ⟨i, kk, rfl, hi, rfl, hk0, hk1, HK, HB⟩ := hrel
    by_cases hlt : i < l.length
    · obtain ⟨ad0, e0, x0, x1⟩ := at_Lie HR.out i hlt
      subst e0
      have hk2 : kk + 2 ≤ 9223372036854775800 := by have := HK.out; omega
      have hE : l.getD i default = ⟨kk, kk + 1⟩ := by
        have h1 := congrArg (fun z => z.getD i default) HL.out
        rw [h1]
        unfold marksLie
        rw [getD_at _ _ (by simpa using hlt)]
        simp [HK.out, Int.add_assoc]
      rw [hE] at x0 x1
      clear hE
      replace x0 := pw_cell_below HB.out x0
      replace x1 := pw_cell_below HB.out x1
      go_wp2
      go_roundw
      case rel => exact ⟨i + 1, kk + 1 + 1, by go_num, by omega, rfl, by omega, by omega, ⟨by rw [HK.out]; push_cast; omega⟩, HB⟩
      case measure => simp [intOf]; omega
    · have hil : i = l.length := by omega
      subst hil
      have HK2 := HK
      go_wp2
      go_ret
      exact ⟨by rw [HK2.out]; rfl, HB.out⟩
set_option maxRecDepth 100000 in
theorem heldSpotS_any (A : Option Addr) (c : Nat) (l : List SpotT) (k : Int) (w : World) (hr : Kd.C kSpot w A l.length l) (hl : l = marksSpot k l.length) (h0 : 0 ≤ k) (h1 : k + 3 * (l.length : Int) ≤ 9223372036854775800) :
    Calls Try.prog 103 #[.slice A l.length c, .int .i64 k] w
      fun e w' => e = .returned (.int .i64 (k + 3 * (l.length : Int))) ∧ Below w.heap.size w w' := by
  have hm := hr.2.1
  have HR := Aside0.mk hr
  have HL := Aside0.mk hl
  clear hr hl
  go_enter Try.func103, Try.ntmps103
  go_wp2
  go_loopw [1, 5] (fun v1 v5 wr => ∃ (i : Nat) (kk : Int), v5 = .int .i64 i ∧ i ≤ l.length ∧ v1 = .int .i64 kk ∧ 0 ≤ kk ∧ kk ≤ 9223372036854775800 ∧ Aside0 (kk = k + 3 * (i : Int)) ∧ Aside0 (Below w.heap.size w wr)) (fun _ v5 _ => l.length - (intOf v5).toNat)
  case atStart => exact ⟨0, k, rfl, Nat.zero_le _, rfl, h0, by omega, ⟨by simp⟩, ⟨Below.refl _ _⟩⟩
  case round =>
    obtain ⟨i, kk, rfl, hi, rfl, hk0, hk1, HK, HB⟩ := hrel
    by_cases hlt : i < l.length
    · obtain ⟨ad0, e0, x0, x1, x2⟩ := at_Spot HR.out i hlt
      subst e0
      have hk2 : kk + 3 ≤ 9223372036854775800 := by have := HK.out; omega
      have hE : l.getD i default = ⟨kk, kk + 1, kk + 1 + 1⟩ := by
        have h1 := congrArg (fun z => z.getD i default) HL.out
        rw [h1]
        unfold marksSpot
        rw [getD_at _ _ (by simpa using hlt)]
        simp [HK.out, Int.add_assoc]
      rw [hE] at x0 x1 x2
      clear hE
      replace x0 := pw_cell_below HB.out x0
      replace x1 := pw_cell_below HB.out x1
      replace x2 := pw_cell_below HB.out x2
      go_wp2
      go_roundw
      case rel => exact ⟨i + 1, kk + 1 + 1 + 1, by go_num, by omega, rfl, by omega, by omega, ⟨by rw [HK.out]; push_cast; omega⟩, HB⟩
      case measure => simp [intOf]; omega
    · have hil : i = l.length := by omega
      subst hil
      have HK2 := HK
      go_wp2
      go_ret
      exact ⟨by rw [HK2.out]; rfl, HB.out⟩
end Go.Proofs.Ytckcffjnffcjcaa
