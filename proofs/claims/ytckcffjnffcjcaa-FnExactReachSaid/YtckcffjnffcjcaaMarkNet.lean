/- Contract of markNet: it writes into the net's own blocks alone. Conditions: the net was made by the call (OwnNet), the numbers stay small. -/
import Derived.Test.YtckcffjnffcjcaaMarks
import Derived.Test.YtckcffjnffcjcaaCut0
set_option linter.unusedVariables false
set_option linter.unusedSimpArgs false
namespace Go.Proofs.Ytckcffjnffcjcaa
open Go.RowKit Go.Proofs.YtckcffjnffcjcaaW.PrintWords
/-- Only blocks from lo on and below hi (and new ones) have turned. -/
structure Within (lo hi : Nat) (w w' : World) : Prop where
  os : w'.os = w.os
  tape : w'.tape = w.tape
  output : w'.output = w.output
  size : w.heap.size ≤ w'.heap.size
  block : ∀ k, k < w.heap.size → (k < lo ∨ hi ≤ k) → w'.heap[k]? = w.heap[k]?
theorem Within.refl (lo hi : Nat) (w : World) : Within lo hi w w := ⟨rfl, rfl, rfl, Nat.le_refl _, fun _ _ _ => rfl⟩
theorem Within.trans {lo hi : Nat} {w w1 w2 : World} (h : Within lo hi w w1) (k : Within lo hi w1 w2) : Within lo hi w w2 :=
  ⟨k.os.trans h.os, k.tape.trans h.tape, k.output.trans h.output, Nat.le_trans h.size k.size, fun j hj hb => (k.block j (Nat.lt_of_lt_of_le hj h.size) hb).trans (h.block j hj hb)⟩
theorem Within.of_below {lo hi : Nat} {w w1 : World} (h : Below w.heap.size w w1) : Within lo hi w w1 := ⟨h.os, h.tape, h.output, h.size, fun k hk _ => h.block k hk⟩
theorem Within.of_grown {lo hi : Nat} {w w1 : World} {g : Nat} (h : w.grownBy w1 (some g)) (h1 : lo ≤ g) (h2 : g < hi) : Within lo hi w w1 :=
  ⟨h.os, h.tape, h.output, h.size, fun k hk hb => h.block k hk (by intro e; injection e with e; omega)⟩
theorem Within.below {lo hi : Nat} {w0 w w1 : World} (h : Within lo hi w w1) (hb : Below lo w0 w) (hl : lo ≤ w.heap.size) : Below lo w0 w1 :=
  ⟨h.os.trans hb.os, h.tape.trans hb.tape, h.output.trans hb.output, Nat.le_trans hb.size h.size, fun k hk => (h.block k (by omega) (.inl hk)).trans (hb.block k hk)⟩
theorem Within.set {lo hi : Nat} {w w1 : World} (h : Within lo hi w w1) {g i : Nat} (h1 : lo ≤ g) (h2 : g < hi) (u : Value) : Within lo hi w (w1.setCell ⟨g, i, none⟩ u) :=
  h.trans ⟨rfl, rfl, rfl, by simp [World.setCell], fun k hk hb => Below.heap_setCell w1 ⟨g, i, none⟩ u k (by simp only; omega)⟩
theorem Within.alloc {lo hi : Nat} {w w1 : World} (h : Within lo hi w w1) (o : Obj) : Within lo hi w (w1.alloc o) := h.trans (Within.of_below (below_alloc (Below.refl _ _) o))
/-- A slice of ends whose cells hold whole numbers, in a block from lo on and below hi. -/
def EndSh (lo hi : Nat) (w : World) (v : Value) (n : Nat) : Prop := ∃ A c, v = .slice A n c ∧ (n = 0 ∨ ∃ (g : Nat) (cs : Array Value), A = some ⟨g, 0, none⟩ ∧ lo ≤ g ∧ g < hi ∧ w.heap[g]? = some (.cells cs 67 (0, 0)) ∧ ∀ j, j < 2 * n → ∃ z, cs[j]? = some (.int .i64 z))
/-- What a write of whole numbers into blocks of ends leaves of such a slice. -/
structure EndsTurn (w w' : World) : Prop where
  size : w.heap.size ≤ w'.heap.size
  other : ∀ k, k < w.heap.size → (∀ cs : Array Value, w.heap[k]? ≠ some (Obj.cells cs 67 (0, 0))) → w'.heap[k]? = w.heap[k]?
  ends : ∀ (k : Nat) (cs : Array Value), w.heap[k]? = some (Obj.cells cs 67 (0, 0)) → ∃ cs' : Array Value, w'.heap[k]? = some (Obj.cells cs' 67 (0, 0)) ∧ ∀ j : Nat, cs'[j]? = cs[j]? ∨ (j < cs.size ∧ ∃ z, cs'[j]? = some (Value.int .i64 z))
theorem EndsTurn.refl (w : World) : EndsTurn w w := ⟨Nat.le_refl _, fun _ _ _ => rfl, fun k cs h => ⟨cs, h, fun j => .inl rfl⟩⟩
theorem EndsTurn.trans {w w1 w2 : World} (h : EndsTurn w w1) (k : EndsTurn w1 w2) : EndsTurn w w2 := by
  refine ⟨Nat.le_trans h.size k.size, fun j hj hn => ?_, fun j cs hc => ?_⟩
  · have e := h.other j hj hn
    exact (k.other j (Nat.lt_of_lt_of_le hj h.size) (by rw [e]; exact hn)).trans e
  · obtain ⟨cs1, h1, h2⟩ := h.ends j cs hc
    obtain ⟨cs2, h3, h4⟩ := k.ends j cs1 h1
    refine ⟨cs2, h3, fun i => ?_⟩
    have hsz : ∀ {a b : Array Value}, (∀ i, a[i]? = b[i]? ∨ (i < b.size ∧ ∃ z, a[i]? = some (.int .i64 z))) → ∀ i, i < a.size → i < b.size := by
      intro a b hab i hi
      rcases hab i with e | ⟨e, _⟩
      · rw [Array.getElem?_eq_getElem hi] at e
        rcases Nat.lt_or_ge i b.size with h | h
        · exact h
        · rw [Array.getElem?_eq_none h] at e; cases e
      · exact e
    rcases h4 i with e | ⟨e, z, ez⟩
    · rcases h2 i with e2 | ⟨e2, z, ez⟩
      · exact .inl (e.trans e2)
      · exact .inr ⟨e2, z, e.trans ez⟩
    · exact .inr ⟨hsz h2 i e, z, ez⟩
theorem EndsTurn.of_below {w w1 : World} (h : Below w.heap.size w w1) : EndsTurn w w1 :=
  ⟨h.size, fun k hk _ => h.block k hk, fun k cs hc => ⟨cs, (h.block k (Array.getElem?_eq_some_iff.1 hc).1).trans hc, fun j => .inl rfl⟩⟩
/-- A write elsewhere than in blocks of ends. -/
theorem EndSh.turn {lo hi : Nat} {w w1 : World} {v : Value} {n : Nat} (h : EndSh lo hi w v n) (t : EndsTurn w w1) : EndSh lo hi w1 v n := by
  obtain ⟨A, c, rfl, h⟩ := h
  refine ⟨A, c, rfl, ?_⟩
  rcases h with h | ⟨g, cs, rfl, h1, h2, h3, h4⟩
  · exact .inl h
  · obtain ⟨cs', h5, h6⟩ := t.ends g cs h3
    refine .inr ⟨g, cs', rfl, h1, h2, h5, fun j hj => ?_⟩
    rcases h6 j with e | ⟨_, z, ez⟩
    · obtain ⟨z, hz⟩ := h4 j hj
      exact ⟨z, e.trans hz⟩
    · exact ⟨z, ez⟩
theorem EndSh.keep {lo hi : Nat} {w w1 : World} {v : Value} {n : Nat} (h : EndSh lo hi w v n) (t : ∀ (k : Nat) (cs : Array Value), w.heap[k]? = some (Obj.cells cs 67 (0, 0)) → w1.heap[k]? = w.heap[k]?) : EndSh lo hi w1 v n := by
  obtain ⟨A, c, rfl, h⟩ := h
  refine ⟨A, c, rfl, ?_⟩
  rcases h with h | ⟨g, cs, rfl, h1, h2, h3, h4⟩
  · exact .inl h
  · exact .inr ⟨g, cs, rfl, h1, h2, (t g cs h3).trans h3, h4⟩
theorem EndsTurn.setCell {w : World} {g i : Nat} {cs : Array Value} (hc : w.heap[g]? = some (.cells cs 67 (0, 0))) (hi : i < cs.size) (z : Int) : EndsTurn w (w.setCell ⟨g, i, none⟩ (.int .i64 z)) := by
  refine ⟨by simp [World.setCell], fun k hk hn => Below.heap_setCell w ⟨g, i, none⟩ _ k (by rintro rfl; exact hn cs hc), fun k cs' hk => ?_⟩
  by_cases h : k = g
  · subst h
    rw [hc] at hk
    injection hk with hk
    injection hk with hk
    subst hk
    refine ⟨cs.setIfInBounds i (.int .i64 z), blk_set hc i _, fun j => ?_⟩
    rw [Array.getElem?_setIfInBounds]
    by_cases hij : i = j
    · subst hij
      rw [if_pos rfl, if_pos hi]
      exact .inr ⟨hi, z, rfl⟩
    · rw [if_neg hij]
      exact .inl rfl
  · exact ⟨cs', (Below.heap_setCell w ⟨g, i, none⟩ _ k h).trans hk, fun j => .inl rfl⟩
set_option maxRecDepth 100000 in
set_option maxHeartbeats 1000000 in
theorem markEndSh_any (lo hi : Nat) (v : Value) (n : Nat) (k : Int) (w : World) (hr : EndSh lo hi w v n) (hn : n ≤ 1048576) (h0 : 0 ≤ k) (h1 : k ≤ 1152921504606846976) :
    Calls Try.prog 60 #[v, .int .i64 k] w
      fun e w' => e = .returned (.int .i64 (k + 2 * (n : Int))) ∧ EndsTurn w w' ∧ Within lo hi w w' := by
  obtain ⟨A, c, rfl, hsh⟩ := hr
  rcases hsh with rfl | ⟨g, cs, rfl, g1, g2, hb, hint⟩
  · go_enter Try.func60, Try.ntmps60
    go_wp2
    refine wp_loop_rounds 1 ?_
    rw [rounds_succ]
    go_wp2
    go_ret
    exact ⟨by simp, EndsTurn.refl w, Within.refl lo hi w⟩
  · have HB := Aside0.mk hb
    have HI := Aside0.mk hint
    clear hb hint
    go_enter Try.func60, Try.ntmps60
    go_wp2
    go_loopw [1, 5] (fun v1 v5 wr => ∃ (i : Nat) (kk : Int), v5 = .int .i64 i ∧ i ≤ n ∧ v1 = .int .i64 kk ∧ 0 ≤ kk ∧ kk ≤ 1152921504606846976 + 2 * (i : Int) ∧ Aside0 (kk = k + 2 * (i : Int)) ∧ Aside0 (EndsTurn w wr) ∧ Aside0 (Within lo hi w wr)) (fun _ v5 _ => n - (intOf v5).toNat)
    case atStart => exact ⟨0, k, rfl, Nat.zero_le _, rfl, h0, by omega, ⟨by simp⟩, ⟨EndsTurn.refl w⟩, ⟨Within.refl lo hi w⟩⟩
    case round =>
      obtain ⟨i, kk, rfl, hi, rfl, hk0, hk1, HK, HT, HW⟩ := hrel
      by_cases hlt : i < n
      · obtain ⟨cs1, hc1, hj1⟩ := HT.out.ends g cs HB.out
        have cell : ∀ j, j < 2 * n → ∃ z, cs1[j]? = some (.int .i64 z) := fun j hj => by
          rcases hj1 j with e | ⟨_, z, ez⟩
          · obtain ⟨z, hz⟩ := HI.out j hj
            exact ⟨z, e.trans hz⟩
          · exact ⟨z, ez⟩
        obtain ⟨z0, hz0⟩ := cell (i * 2) (by omega)
        obtain ⟨z1, hz1⟩ := cell (i * 2 + 1) (by omega)
        have hs0 := (Array.getElem?_eq_some_iff.1 hz0).1
        have hs1 := (Array.getElem?_eq_some_iff.1 hz1).1
        have c0 : wr.cell? ⟨g, i * 2, none⟩ = some (.int .i64 z0) := (blk_cell hc1 _).trans hz0
        have c1 : wr.cell? ⟨g, i * 2 + 1, none⟩ = some (.int .i64 z1) := (blk_cell hc1 _).trans hz1
        have f0 := blk_frozen hc1 (i * 2)
        have f1 := blk_frozen hc1 (i * 2 + 1)
        have gl := blk_lt hc1
        have T1 := Aside0.mk ((EndsTurn.setCell hc1 hs0 kk).trans (EndsTurn.setCell (blk_set hc1 (i * 2) (.int .i64 kk)) (i := i * 2 + 1) (by simpa using hs1) (kk + 1)))
        clear hc1 hj1 cell hz0 hz1 hs0 hs1
        go_wp2
        go_roundw
        case rel => exact ⟨i + 1, kk + 1 + 1, by go_num, by omega, rfl, by omega, by omega, ⟨by rw [HK.out]; push_cast; omega⟩, ⟨HT.out.trans T1.out⟩, ⟨(HW.out.set g1 g2 _).set g1 g2 _⟩⟩
        case measure => simp [intOf]; omega
      · have hil : i = n := by omega
        subst hil
        have HK2 := HK
        go_wp2
        go_ret
        exact ⟨by rw [HK2.out]; rfl, HT.out, HW.out⟩
theorem conv_one (W : World) (x : Int) : (convert 31 9 (.slice (some ⟨W.heap.size, 0, none⟩) 1 1)).run Try.prog (W.alloc (.cells #[.int .u8 x] 5)) = .ok (.string (strOfNums [x])) (W.alloc (.cells #[.int .u8 x] 5)) := by
  refine string_of_reads (e := 5) Try.underlying31 Try.underlying5 Try.underlying9 (xs := [x]) ⟨rfl, by simp, fun _ => ⟨_, rfl, fun i hi => ?_⟩⟩
  have : i = 0 := by simp at hi; omega
  subst this
  have := (Bx.new W [.int .u8 x] 5).c 0 _ rfl
  simp only [Addr.add, if_pos]
  exact this
theorem strOfNums_one (x : Int) : (strOfNums [x]).size = 1 := by simp [strOfNums, ByteArray.size]
set_option maxRecDepth 100000 in
set_option maxHeartbeats 1000000 in
theorem markText_any (k : Int) (w : World) (h1 : k ≤ 1152921504606846976) :
    Calls Try.prog 179 #[.int .i64 k] w fun e w' => ∃ s, e = .returned (.string s) ∧ Below w.heap.size w w' := by
  by_cases h0 : k ≤ 0
  · go_enter Try.func179, Try.ntmps179
    go_wp2
    go_ret
    first | exact Below.refl _ _ | exact ⟨_, rfl, Below.refl _ _⟩
  · go_enter Try.func179, Try.ntmps179
    go_wp2
    go_loopw [0, 3] (fun v0 v3 wr => ∃ (kk : Int) (s : ByteArray), v0 = .int .i64 kk ∧ 0 ≤ kk ∧ v3 = .string s ∧ (s.size : Int) + kk ≤ 1152921504606846976 ∧ Aside0 (Below w.heap.size w wr)) (fun v0 _ _ => (intOf v0).toNat)
    case atStart => exact ⟨k, ⟨#[]⟩, rfl, by omega, rfl, by have : (⟨#[]⟩ : ByteArray).size = 0 := rfl; omega, ⟨Below.refl _ _⟩⟩
    case round =>
      obtain ⟨kk, s, rfl, hk0, rfl, hs, HB⟩ := hrel
      by_cases hp : 0 < kk
      · have hconv := conv_one
        have hadd : ∀ (W : World) (x : Int), (Op.stringOp .add (strOfNums [x]) s).run Try.prog W = .ok (.string (strOfNums [x] ++ s)) W := fun W x => run_string_add_sum W _ _ (by rw [strOfNums_one]; omega)
        have hq : kk / 10 ≤ kk - 1 := by omega
        have hq0 : 0 ≤ kk / 10 := by omega
        go_wp2
        go_roundw
        case rel => exact ⟨_, _, rfl, by omega, rfl, by rw [ByteArray.size_append, strOfNums_one]; omega, ⟨below_alloc HB.out _⟩⟩
        case measure => simp [intOf]; omega
      · have hadd := run_string_add_sum (P := Try.prog) wr ⟨#[109]⟩ s (by have : (⟨#[109]⟩ : ByteArray).size = 1 := rfl; omega)
        go_wp2
        go_ret
        exact ⟨⟨_, rfl⟩, HB.out⟩
/-- Blocks that are no rows of pieces are as they were. -/
def But78 (w w1 : World) : Prop := ∀ k, k < w.heap.size → (∀ cs : Array Value, w.heap[k]? ≠ some (Obj.cells cs 78 (0, 0))) → w1.heap[k]? = w.heap[k]?
theorem kPiece_sz : kPiece.sz = 4 := rfl
set_option maxRecDepth 100000 in
set_option maxHeartbeats 1000000 in
theorem markPieceSh_any (lo hi : Nat) (v : Value) (l : List PieceT) (k : Int) (w : World) (hr : Kd.R kPiece 78 w lo (fun j => j < hi) v l) (hn : l.length ≤ 1048576) (hl : lo ≤ w.heap.size) (h0 : 0 ≤ k) (h1 : k ≤ 1000000000000) :
    Calls Try.prog 138 #[v, .int .i64 k] w
      fun e w' => e = .returned (.int .i64 (k + 4 * (l.length : Int))) ∧ Within lo hi w w' ∧ But78 w w' := by
  have HR := Aside0.mk hr
  obtain ⟨A, c, hv, _, hC⟩ := Kd.R_reads hr
  have hmx := hC.2.1
  clear hr hC
  subst hv
  go_enter Try.func138, Try.ntmps138
  go_wp2
  go_loopw [1, 5] (fun v1 v5 wr => ∃ (i : Nat) (kk : Int) (L : List PieceT), v5 = .int .i64 i ∧ i ≤ l.length ∧ v1 = .int .i64 kk ∧ 0 ≤ kk ∧ kk ≤ 1000000000000 + 4 * (i : Int) ∧ Aside0 (kk = k + 4 * (i : Int)) ∧ Aside0 (L.length = l.length) ∧ Aside0 (Kd.R kPiece 78 wr lo (fun j => j < hi) (.slice A l.length c) L) ∧ Aside0 (Within lo hi w wr) ∧ Aside0 (But78 w wr)) (fun _ v5 _ => l.length - (intOf v5).toNat)
  case atStart => exact ⟨0, k, l, rfl, Nat.zero_le _, rfl, h0, by omega, ⟨by simp⟩, ⟨rfl⟩, HR, ⟨Within.refl _ _ _⟩, ⟨fun _ _ _ => rfl⟩⟩
  case round =>
    clear HR
    obtain ⟨i, kk, L, rfl, hi', rfl, hk0, hk1, HK, HL, HO, HW, HU⟩ := hrel
    by_cases hlt : i < l.length
    · obtain ⟨g, cap, ev, hg1, hg2, cells0, hcells0⟩ := Kd.R_form HO.out (by rw [HL.out]; omega)
      have HNG : Aside0 (∀ k, k < w.heap.size → (∀ cs : Array Value, w.heap[k]? ≠ some (Obj.cells cs 78 (0, 0))) → k ≠ g) := ⟨fun k hk hn e => by subst e; exact hn cells0 ((HU.out k hk hn).symm.trans hcells0)⟩
      clear hcells0
      rw [HL.out] at ev
      obtain ⟨rfl, rfl⟩ : A = some ⟨g, 0, none⟩ ∧ c = cap := by
        injection ev with e1 e2 e3
        exact ⟨e1, e3⟩
      clear ev
      have hgh : g < hi := HO.out.1 g (by simp [Value.ownBlock])
      obtain ⟨E0, hE0⟩ : ∃ E0, E0 = L.getD i default := ⟨_, rfl⟩
      have HE0 := Aside0.mk hE0
      have hLl : i < L.length := by rw [HL.out]; exact hlt
      have HLl := Aside0.mk hLl
      clear hE0 hLl
      go_wp2_with (first
        | (go_at_call 179; refine (markText_any kk _ (by omega)).mono ?_; rintro e w1 ⟨s1, rfl, b1⟩; have O1 := Aside0.mk (Kd.R_below HO.out b1); have W1 := Aside0.mk (HW.out.trans (Within.of_below (lo := lo) (hi := hi) b1)); have B1 := Aside0.mk (W1.out.below (Below.refl lo w) hl); have hg3 : g < w1.heap.size := Nat.lt_of_lt_of_le hg2 b1.size; have U1 := Aside0.mk b1; clear b1)
        | ((with_reducible refine gate_store (t := 9) (p := 17) rfl ?_); refine store_field kPiece lo rfl rfl 9 _ _ rfl 78 i 0 L (⟨s1, E0.len, E0.speed, E0.brake⟩ : PieceT) (.string s1) default (fun j => j < hi) rfl (by simp [kPiece_sz]; try rfl) rfl rfl rfl rfl O1.out hlt (by decide) (by intro c hc; rw [← HE0.out] at hc; obtain rfl := kPiece_openM hc; exact kPiece_mkM _ _ _ _) B1.out ?_; intro w2 hR2 hB2 hG2)
        | ((with_reducible refine gate_store (t := 3) (p := 24) rfl ?_); refine store_field kPiece lo rfl rfl 3 _ _ rfl 78 i 1 _ (⟨s1, kk + 1, E0.speed, E0.brake⟩ : PieceT) (.int .i64 (kk + 1)) default (fun j => j < hi) rfl (by simp [kPiece_sz]; try rfl) rfl rfl rfl rfl hR2 hlt (by decide) (by intro c hc; rw [set_getD _ _ _ (by have := HLl.out; first | omega | (simp; omega))] at hc; obtain rfl := kPiece_openM hc; exact kPiece_mkM _ _ _ _) hB2 ?_; intro w3 hR3 hB3 hG3)
        | ((with_reducible refine gate_store (t := 3) (p := 31) rfl ?_); refine store_field kPiece lo rfl rfl 3 _ _ rfl 78 i 2 _ (⟨s1, kk + 1, kk + 1 + 1, E0.brake⟩ : PieceT) (.int .i64 (kk + 1 + 1)) default (fun j => j < hi) rfl (by simp [kPiece_sz]; try rfl) rfl rfl rfl rfl hR3 hlt (by decide) (by intro c hc; rw [set_getD _ _ _ (by have := HLl.out; first | omega | (simp; omega))] at hc; obtain rfl := kPiece_openM hc; exact kPiece_mkM _ _ _ _) hB3 ?_; intro w4 hR4 hB4 hG4)
        | ((with_reducible refine gate_store (t := 3) (p := 38) rfl ?_); refine store_field kPiece lo rfl rfl 3 _ _ rfl 78 i 3 _ (⟨s1, kk + 1, kk + 1 + 1, kk + 1 + 1 + 1⟩ : PieceT) (.int .i64 (kk + 1 + 1 + 1)) default (fun j => j < hi) rfl (by simp [kPiece_sz]; try rfl) rfl rfl rfl rfl hR4 hlt (by decide) (by intro c hc; rw [set_getD _ _ _ (by have := HLl.out; first | omega | (simp; omega))] at hc; obtain rfl := kPiece_openM hc; exact kPiece_mkM _ _ _ _) hB4 ?_; intro w5 hR5 hB5 hG5))
      go_roundw
      case rel =>
        refine ⟨i + 1, kk + 1 + 1 + 1 + 1, _, by go_num, by omega, rfl, by omega, by omega, ⟨by rw [HK.out]; push_cast; omega⟩, ⟨?_⟩, ⟨hR5⟩, ⟨?_⟩, ⟨fun k hk hn => ?_⟩⟩
        · simpa using HL.out
        · exact (((W1.out.trans (Within.of_grown hG2 hg1 hgh)).trans (Within.of_grown hG3 hg1 hgh)).trans (Within.of_grown hG4 hg1 hgh)).trans (Within.of_grown hG5 hg1 hgh)
        · have hne : some k ≠ some g := fun e => HNG.out k hk hn (by injection e)
          have k0 : k < wr.heap.size := Nat.lt_of_lt_of_le hk HW.out.size
          have k1 := Nat.lt_of_lt_of_le k0 U1.out.size
          have k2 := Nat.lt_of_lt_of_le k1 hG2.size
          have k3 := Nat.lt_of_lt_of_le k2 hG3.size
          have k4 := Nat.lt_of_lt_of_le k3 hG4.size
          exact (hG5.block k k4 hne).trans ((hG4.block k k3 hne).trans ((hG3.block k k2 hne).trans ((hG2.block k k1 hne).trans ((U1.out.block k k0).trans (HU.out k hk hn)))))
      case measure => simp [intOf]; omega
    · have hil : i = l.length := by omega
      subst hil
      have HK2 := HK
      go_wp2
      go_ret
      exact ⟨by rw [HK2.out]; rfl, HW.out, HU.out⟩
/-- A row of joints in block G: kinds, names, slices of ends. -/
def JC (lo hi : Nat) (w : World) (G n : Nat) : Prop := ∃ cs : Array Value, w.heap[G]? = some (Obj.cells cs 139 (0, 0)) ∧ ∀ i, i < n → (∃ z, cs[i * 3]? = some (Value.int .i64 z)) ∧ (∃ s, cs[i * 3 + 1]? = some (Value.string s)) ∧ ∃ v m, cs[i * 3 + 2]? = some v ∧ m ≤ 1048576 ∧ EndSh lo hi w v m
theorem JC.below {lo hi : Nat} {w w1 : World} {G n : Nat} (h : JC lo hi w G n) (hb : Below w.heap.size w w1) : JC lo hi w1 G n := by
  obtain ⟨cs, h1, h2⟩ := h
  refine ⟨cs, (hb.block G (blk_lt h1)).trans h1, fun i hi' => ?_⟩
  obtain ⟨a, b, v, m, c, d, e⟩ := h2 i hi'
  exact ⟨a, b, v, m, c, d, e.turn (EndsTurn.of_below hb)⟩
theorem JC.turn {lo hi : Nat} {w w1 : World} {G n : Nat} (h : JC lo hi w G n) (hb : EndsTurn w w1) : JC lo hi w1 G n := by
  obtain ⟨cs, h1, h2⟩ := h
  refine ⟨cs, (hb.other G (blk_lt h1) (fun cs' e => by rw [h1] at e; injection e with e; injection e with _ e; cases e)).trans h1, fun i hi' => ?_⟩
  obtain ⟨a, b, v, m, c, d, e⟩ := h2 i hi'
  exact ⟨a, b, v, m, c, d, e.turn hb⟩
theorem JC.but {lo hi : Nat} {w w1 : World} {G n : Nat} (h : JC lo hi w G n) (hb : But78 w w1) : JC lo hi w1 G n := by
  obtain ⟨cs, h1, h2⟩ := h
  refine ⟨cs, (hb G (blk_lt h1) (fun cs' e => by rw [h1] at e; injection e with e; injection e with _ e; cases e)).trans h1, fun i hi' => ?_⟩
  obtain ⟨a, b, v, m, c, d, e⟩ := h2 i hi'
  exact ⟨a, b, v, m, c, d, e.keep fun k cs' hk => hb k (blk_lt hk) (fun cs2 e => by rw [hk] at e; injection e with e; injection e with _ e; cases e)⟩
theorem JC.set {lo hi : Nat} {w : World} {G n i j : Nat} (h : JC lo hi w G n) (hi' : i < n) (u : Value) (hu : (j = 0 ∧ ∃ z, u = .int .i64 z) ∨ (j = 1 ∧ ∃ s, u = .string s)) : JC lo hi (w.setCell ⟨G, i * 3 + j, none⟩ u) G n := by
  obtain ⟨cs, h1, h2⟩ := h
  have hlt : i * 3 + j < cs.size := by
    obtain ⟨⟨z, hz⟩, ⟨s, hs⟩, _⟩ := h2 i hi'
    rcases hu with ⟨rfl, _⟩ | ⟨rfl, _⟩
    · exact (Array.getElem?_eq_some_iff.1 hz).1
    · exact (Array.getElem?_eq_some_iff.1 hs).1
  refine ⟨_, blk_set h1 _ u, fun q hq => ?_⟩
  obtain ⟨⟨z, hz⟩, ⟨s, hs⟩, v, m, c, d, e⟩ := h2 q hq
  have hE : EndSh lo hi (w.setCell ⟨G, i * 3 + j, none⟩ u) v m := e.keep fun k cs' hk => Below.heap_setCell w _ u k (by rintro rfl; rw [h1] at hk; injection hk with hk; injection hk with _ hk; cases hk)
  have key : ∀ p, p ≠ i * 3 + j → (cs.setIfInBounds (i * 3 + j) u)[p]? = cs[p]? := fun p hp => by rw [Array.getElem?_setIfInBounds, if_neg (Ne.symm hp)]
  have self : (cs.setIfInBounds (i * 3 + j) u)[i * 3 + j]? = some u := by rw [Array.getElem?_setIfInBounds, if_pos rfl, if_pos hlt]
  rcases hu with ⟨rfl, z', rfl⟩ | ⟨rfl, s', rfl⟩
  · refine ⟨?_, ⟨s, by rw [key _ (by omega)]; exact hs⟩, v, m, by rw [key _ (by omega)]; exact c, d, hE⟩
    by_cases hqi : q = i
    · subst hqi; exact ⟨z', self⟩
    · exact ⟨z, by rw [key _ (by omega)]; exact hz⟩
  · refine ⟨⟨z, by rw [key _ (by omega)]; exact hz⟩, ?_, v, m, by rw [key _ (by omega)]; exact c, d, hE⟩
    by_cases hqi : q = i
    · subst hqi; exact ⟨s', self⟩
    · exact ⟨s, by rw [key _ (by omega)]; exact hs⟩
set_option maxRecDepth 100000 in
set_option maxHeartbeats 1000000 in
theorem markJointSh_any (lo hi : Nat) (A : Option Addr) (c n : Nat) (k : Int) (w : World) (hr : n = 0 ∨ ∃ G, A = some ⟨G, 0, none⟩ ∧ lo ≤ G ∧ G < hi ∧ JC lo hi w G n) (hn : n ≤ 1048576) (h0 : 0 ≤ k) (h1 : k ≤ 1000000000000) :
    Calls Try.prog 139 #[.slice A n c, .int .i64 k] w
      fun e w' => (∃ k', e = .returned (.int .i64 k') ∧ 0 ≤ k' ∧ k' ≤ 1000000000000000000) ∧ Within lo hi w w' := by
  rcases hr with rfl | ⟨G, rfl, g1, g2, hJ⟩
  · go_enter Try.func139, Try.ntmps139
    go_wp2
    refine wp_loop_rounds 1 ?_
    rw [rounds_succ]
    go_wp2
    go_ret
    exact ⟨⟨k, rfl, h0, by omega⟩, Within.refl lo hi w⟩
  · have HJ := Aside0.mk hJ
    clear hJ
    go_enter Try.func139, Try.ntmps139
    go_wp2
    go_loopw [1, 5] (fun v1 v5 wr => ∃ (i : Nat) (kk : Int), v5 = .int .i64 i ∧ i ≤ n ∧ v1 = .int .i64 kk ∧ 0 ≤ kk ∧ kk ≤ 1000000000000 + 3000000 * (i : Int) ∧ Aside0 (JC lo hi wr G n) ∧ Aside0 (Within lo hi w wr)) (fun _ v5 _ => n - (intOf v5).toNat)
    case atStart => exact ⟨0, k, rfl, Nat.zero_le _, rfl, h0, by omega, HJ, ⟨Within.refl lo hi w⟩⟩
    case round =>
      obtain ⟨i, kk, rfl, hi', rfl, hk0, hk1, HC, HW⟩ := hrel
      by_cases hlt : i < n
      · obtain ⟨cs, hcs, hsh⟩ := HC.out
        obtain ⟨⟨z, hz⟩, ⟨s, hs⟩, _⟩ := hsh i hlt
        have c0 : wr.cell? ⟨G, i * 3, none⟩ = some (.int .i64 z) := (blk_cell hcs _).trans hz
        have f0 := blk_frozen hcs (i * 3)
        have gl := blk_lt hcs
        clear hz hs hsh hcs
        have C1 := Aside0.mk (HC.out.set (j := 0) hlt (.int .i64 kk) (.inl ⟨rfl, kk, rfl⟩))
        obtain ⟨W1, hW1⟩ : ∃ W1, W1 = wr.setCell ⟨G, i * 3, none⟩ (.int .i64 kk) := ⟨_, rfl⟩
        have Wt1 := Aside0.mk (show Within lo hi w W1 by rw [hW1]; exact HW.out.set g1 g2 _)
        have C1' : Aside0 (JC lo hi W1 G n) := ⟨by rw [hW1]; exact C1.out⟩
        have HW1 := Aside0.mk hW1
        clear hW1 C1
        go_wp2_with (first
          | (go_at_call 179; rw [← HW1.out]; refine (markText_any (kk + 1) _ (by omega)).mono ?_; rintro e w2 ⟨s1, rfl, b2⟩; have C2 := Aside0.mk (C1'.out.below b2); have W2 := Aside0.mk (Wt1.out.trans (Within.of_below (lo := lo) (hi := hi) b2)); obtain ⟨cs2, hcs2, hsh2⟩ := C2.out; obtain ⟨⟨z2, hz2⟩, ⟨s2, hs2⟩, v2, m2, hv2, hm2, hE2⟩ := hsh2 i hlt; have c1 : w2.cell? ⟨G, i * 3 + 1, none⟩ = some (.string s2) := (blk_cell hcs2 _).trans hs2; have c2 : w2.cell? ⟨G, i * 3 + 2, none⟩ = some v2 := (blk_cell hcs2 _).trans hv2; have f1 := blk_frozen hcs2 (i * 3 + 1); have gl2 := blk_lt hcs2; have C3 := Aside0.mk (C2.out.set (j := 1) hlt (.string s1) (.inr ⟨rfl, s1, rfl⟩)); have W3 := Aside0.mk (W2.out.set (i := i * 3 + 1) g1 g2 (.string s1)); have E3 := Aside0.mk (hE2.keep (w1 := w2.setCell ⟨G, i * 3 + 1, none⟩ (.string s1)) (fun k cs' hk => Below.heap_setCell w2 _ _ k (by rintro rfl; rw [hcs2] at hk; injection hk with hk; injection hk with _ hk; cases hk))); clear b2 hcs2 hsh2 hz2 hs2 hv2 hE2)
          | (go_at_call 60; refine (markEndSh_any lo hi v2 m2 (kk + 1 + 1) _ E3.out hm2 (by omega) (by omega)).mono ?_; rintro e w4 ⟨rfl, t4, b4⟩; have C4 := Aside0.mk (C3.out.turn t4); have W4 := Aside0.mk (W3.out.trans b4); clear t4 b4))
        go_roundw
        case rel => exact ⟨i + 1, kk + 1 + 1 + 2 * (m2 : Int), by go_num, by omega, rfl, by omega, by push_cast; omega, C4, W4⟩
        case measure => simp [intOf]; omega
      · go_wp2
        go_ret
        exact ⟨⟨kk, rfl, hk0, by omega⟩, HW.out⟩
/-- A net that the call has made: its rows lie in blocks from lo on and below hi. -/
structure OwnNet (lo hi : Nat) (w : World) (u : (Option Addr × Nat) × (Option Addr × Nat)) (n : NetT) : Prop where
  p : Kd.R kPiece 78 w lo (fun j => j < hi) (.slice u.1.1 n.pieces.length u.1.2) n.pieces
  j : Kd.R (kJoint 67) 139 w lo (fun j => j < hi) (.slice u.2.1 n.joints.length u.2.2) n.joints
theorem OwnNet.below {lo hi : Nat} {w w1 : World} {u : (Option Addr × Nat) × (Option Addr × Nat)} {n : NetT} (h : OwnNet lo hi w u n) (hb : Below w.heap.size w w1) : OwnNet lo hi w1 u n := ⟨Kd.R_below h.p hb, Kd.R_below h.j hb⟩
theorem OwnNet.rd {lo hi : Nat} {w : World} {u : (Option Addr × Nat) × (Option Addr × Nat)} {n : NetT} (h : OwnNet lo hi w u n) : RdNet 67 w u n := by
  obtain ⟨_, a, b⟩ := Kd.R_reads' h.p
  obtain ⟨_, c, d⟩ := Kd.R_reads' h.j
  exact ⟨⟨b, a⟩, ⟨d, c⟩⟩
theorem R_upto {α : Type} {d : Kd α} {e : Nat} {w : World} {base : Nat} {ok : Nat → Prop} {v : Value} {xs : List α} (h : d.R e w base ok v xs) : d.R e w base (fun k => k < w.heap.size) v xs := Kd.R_mono (Kd.R_bound h) (fun k hk => hk.2.2.1)
/-- The copy of a net is the call's own. -/
theorem toNet_own (n : NetT) (u : (Option Addr × Nat) × (Option Addr × Nat)) (w : World) (hr : RdNet 65 w u n) (hf : NetFits n) :
    Calls Try.prog 43 #[.agg #[.slice u.1.1 n.pieces.length u.1.2, .slice u.2.1 n.joints.length u.2.2]] w
      fun e w' => ∃ u', e = .returned (.agg #[.slice u'.1.1 n.pieces.length u'.1.2, .slice u'.2.1 n.joints.length u'.2.2]) ∧ OwnNet w.heap.size w'.heap.size w' u' n ∧ Below w.heap.size w w' := by
  refine (toNet_any n u w hr hf.p hf.j hf.e).mono ?_
  rintro e w' ⟨v1, v2, rfl, h1, h2, hb⟩
  obtain ⟨A1, c1, rfl, g1, r1⟩ := Kd.R_reads h1
  obtain ⟨A2, c2, rfl, g2, r2⟩ := Kd.R_reads h2
  exact ⟨((A1, c1), (A2, c2)), rfl, ⟨R_upto h1, R_upto h2⟩, hb⟩
theorem EndSh.of {lo hi : Nat} {w : World} {ok : Nat → Prop} {v : Value} {l : List EndT} (h : Kd.R kEnd 67 w lo ok v l) (hok : ∀ k, ok k → k < hi) : EndSh lo hi w v l.length := by
  obtain ⟨A, c, rfl, hl, hC⟩ := Kd.R_reads h
  refine ⟨A, c, rfl, ?_⟩
  by_cases h0 : l.length = 0
  · exact .inl h0
  · obtain ⟨g, cap, ev, hg1, hg2, cells, hcs⟩ := Kd.R_form h (by omega)
    injection ev with e1 _ e3
    subst e1
    refine .inr ⟨g, cells, rfl, hg1, hok g (h.1 g (by simp [Value.ownBlock])), hcs, fun j hj => ?_⟩
    obtain ⟨ad, e0, x0, x1⟩ := at_End hC (j / 2) (by omega)
    injection e0 with e0
    subst e0
    rcases Nat.mod_two_eq_zero_or_one j with hm | hm
    · have : w.cell? ⟨g, j, none⟩ = some (.int .i64 (l.getD (j / 2) default).piece) := by
        rw [add_plain] at x0
        have e : j / 2 * 2 = j := by omega
        rw [e] at x0; exact x0
      rw [blk_cell hcs] at this
      exact ⟨_, this⟩
    · have : w.cell? ⟨g, j, none⟩ = some (.int .i64 (l.getD (j / 2) default).side) := by
        rw [add_plain] at x1
        have e : j / 2 * 2 + 1 = j := by omega
        simp only [e] at x1; exact x1
      rw [blk_cell hcs] at this
      exact ⟨_, this⟩
theorem JC.of {lo hi : Nat} {w : World} {g n cap : Nat} {l : List JointT} (h : Kd.R (kJoint 67) 139 w lo (fun j => j < hi) (.slice (some ⟨g, 0, none⟩) n cap) l) (hn : n = l.length) (he : ∀ x ∈ l, x.ends.length ≤ 1048576) : JC lo hi w g n := by
  obtain ⟨cells, hcs⟩ := Kd.R_typed h g (by simp [Value.ownBlock])
  refine ⟨cells, hcs, fun i hi' => ?_⟩
  obtain ⟨c, hcl, hM, hcc, _⟩ := Kd.R_elem h default (i : Int) (by omega) (by omega)
  rw [Int.toNat_natCast] at hM hcc
  obtain ⟨v2, rfl, hv2⟩ := kJoint_openM hM
  have c0 := hcc 0 _ rfl
  have c1 := hcc 1 _ rfl
  have c2 := hcc 2 _ rfl
  rw [blk_cell hcs] at c0 c1 c2
  exact ⟨⟨_, c0⟩, ⟨_, c1⟩, v2, _, c2, he _ (getD_mem l i (by omega)), EndSh.of hv2 (fun k hk => hk.1)⟩
set_option maxRecDepth 100000 in
set_option maxHeartbeats 1000000 in
theorem markNet_any (lo hi : Nat) (n : NetT) (u : (Option Addr × Nat) × (Option Addr × Nat)) (k : Int) (w : World) (hr : OwnNet lo hi w u n) (hf : NetFits n) (hlo : lo ≤ w.heap.size) (hhi : hi ≤ w.heap.size) (h0 : 0 ≤ k) (h1 : k ≤ 1000000) :
    Calls Try.prog 59 #[.agg #[.slice u.1.1 n.pieces.length u.1.2, .slice u.2.1 n.joints.length u.2.2], .int .i64 k] w
      fun e w' => (∃ k', e = .returned (.int .i64 k') ∧ 0 ≤ k' ∧ k' ≤ 1000000000000000000) ∧ Within lo hi w w' := by
  have HP := Aside0.mk hr.p
  have HF := Aside0.mk hf
  have hp := hf.p
  have hj := hf.j
  have HJ : Aside0 (n.joints.length = 0 ∨ ∃ G, u.2.1 = some ⟨G, 0, none⟩ ∧ lo ≤ G ∧ G < hi ∧ JC lo hi w G n.joints.length) := ⟨by
    by_cases hz : n.joints.length = 0
    · exact .inl hz
    · obtain ⟨g, cap, ev, hg1, hg2, _⟩ := Kd.R_form hr.j (by omega)
      injection ev with e1 _ e3
      have hj2 := hr.j
      rw [e1, e3] at hj2
      exact .inr ⟨g, e1, hg1, hj2.1 g (by simp [Value.ownBlock]), JC.of hj2 rfl hf.e⟩⟩
  clear hr hf
  obtain ⟨⟨A0, c0⟩, ⟨A1, c1⟩⟩ := u
  simp only at HP HJ ⊢
  obtain ⟨W0, hW0⟩ : ∃ W0, W0 = w.alloc (.cells #[.slice A0 n.pieces.length c0, .slice A1 n.joints.length c1] 35) := ⟨_, rfl⟩
  have hb0 : Below w.heap.size w W0 := by rw [hW0]; exact below_alloc (Below.refl _ _) _
  have HX : Aside0 (Bx W0 w.heap.size [.slice A0 n.pieces.length c0, .slice A1 n.joints.length c1]) := ⟨by rw [hW0]; exact Bx.new w _ 35⟩
  have HP0 := Aside0.mk (Kd.R_below HP.out hb0)
  have HB := Aside0.mk hb0
  have hsz := hb0.size
  have HW := Aside0.mk hW0
  have x0 := HX.out.c 0 _ rfl
  clear hW0 hb0
  go_enter Try.func59, Try.ntmps59
  go_wp2_with (go_at_call 138; rw [← HW.out]; refine (markPieceSh_any lo hi _ _ k _ HP0.out hp (by omega) h0 (by omega)).mono ?_; rintro e w1 ⟨rfl, b1, bu1⟩; have W1 := Aside0.mk ((Within.of_below (lo := lo) (hi := hi) HB.out).trans b1); have x1 : w1.cell? ⟨w.heap.size, 1, none⟩ = some (.slice A1 n.joints.length c1) := (by have e := b1.block w.heap.size HX.out.lt (.inr hhi); have c := HX.out.c 1 _ rfl; unfold World.cell? at c ⊢; simp only at c ⊢; rw [e]; exact c); have J1 : Aside0 (n.joints.length = 0 ∨ ∃ G, A1 = some ⟨G, 0, none⟩ ∧ lo ≤ G ∧ G < hi ∧ JC lo hi w1 G n.joints.length) := ⟨(by rcases HJ.out with h | ⟨G, a, b, c, d⟩; exact .inl h; exact .inr ⟨G, a, b, c, (d.below HB.out).but bu1⟩)⟩; clear b1 x0 bu1)
  refine (markJointSh_any lo hi A1 c1 n.joints.length _ _ J1.out hj (by omega) (by omega)).mono ?_
  rintro e w2 ⟨⟨k', rfl, k0, k1⟩, b2⟩
  have W2 := Aside0.mk (W1.out.trans b2)
  clear x1
  go_wp2
  go_ret
  exact ⟨⟨k', rfl, k0, k1⟩, W2.out⟩
end Go.Proofs.Ytckcffjnffcjcaa
