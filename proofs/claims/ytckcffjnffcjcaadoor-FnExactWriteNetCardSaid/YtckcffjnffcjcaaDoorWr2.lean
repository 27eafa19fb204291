/- Contract of the program's WriteNet. Conditions: sizes, the table that strconv.Itoa reads. -/
import Derived.Test.YtckcffjnffcjcaaDoorWr1
import Derived.Test.YtckcffjnffcjcaaDoorSh
set_option linter.unusedVariables false
set_option linter.unusedSimpArgs false
namespace Go.Proofs.YtckcffjnffcjcaaDoor
open Go.RowKit Go.Proofs.YtckcffjnffcjcaaDoorW.PrintWords
/-- The table stays as it is whatever is done behind the world's own blocks. -/
def TabB (w : World) : Prop := ∀ w', Below w.heap.size w w' → Lib.TabIs Tryd.prog w' "internal/strconv.uint64pow10" .u64 Lib.pow10Tab
theorem tabB_of {w : World} (h : Lib.TabIs Tryd.prog w "internal/strconv.uint64pow10" .u64 Lib.pow10Tab) : TabB w := by
  intro w' hb
  unfold Lib.TabIs World.var? at h ⊢
  cases hg : Tryd.prog.globalNamed "internal/strconv.uint64pow10" with
  | none => rw [hg] at h; cases h
  | some g =>
    rw [hg] at h
    simp only [Option.bind_some] at h ⊢
    by_cases hl : g < w.heap.size
    · rw [hb.block g hl]; exact h
    · rw [Array.getElem?_eq_none (by omega)] at h
      simp at h
theorem TabB.at_ {w w' : World} (h : TabB w) (hb : Below w.heap.size w w') : Lib.TabIs Tryd.prog w' "internal/strconv.uint64pow10" .u64 Lib.pow10Tab := h w' hb
theorem TabB.below {w w' : World} (h : TabB w) (hb : Below w.heap.size w w') : TabB w' := fun W h' => h W (below_more hb h')
theorem grown_below (w : World) (k : Nat) (os : Array Obj) : Below w.heap.size w (Go.Sort.grow (w.drewN k) os) := by
  refine ⟨rfl, rfl, rfl, ?_, fun j hj => ?_⟩
  · show w.heap.size ≤ (w.heap ++ os).size
    rw [Array.size_append]
    exact Nat.le_add_right _ _
  · show (w.heap ++ os)[j]? = w.heap[j]?
    exact Array.getElem?_append_left hj
/-- A builder that holds a text. -/
def Bld (b : Nat) (out : ByteArray) (W : World) : Prop := Lib.IsBuilderF 61 5 b b (Lib.byteCells out.data.toList) W
theorem at_below {b : Nat} {p : Value} {bs : List Value} {W W1 : World} (h : Lib.BuilderAtF 61 5 b b p bs W) (hb : Below W.heap.size W W1) : Lib.BuilderAtF 61 5 b b p bs W1 := by
  have hl := h.lt
  obtain ⟨hB, v, hv, hown, hne⟩ := h
  exact ⟨hB, v, (hb.block b hl).trans hv, hown.kept (row := none) ⟨hb.os, hb.tape, hb.output, hb.size, fun k hk _ => hb.block k hk⟩ (by
    cases h : v.ownBlock with
    | none => exact .inl rfl
    | some g => exact .inr (fun e => by cases e)), hne⟩
theorem Bld.below {b : Nat} {out : ByteArray} {W W1 : World} (h : Bld b out W) (hb : Below W.heap.size W W1) : Bld b out W1 := h.elim (fun x => .inl (at_below x hb)) (fun x => .inr (at_below x hb))
theorem Bld.lt {b : Nat} {out : ByteArray} {W : World} (h : Bld b out W) : b < W.heap.size := h.elim (fun x => x.lt) (fun x => x.lt)
theorem Bld.new (W : World) : Bld W.heap.size ⟨#[]⟩ (W.alloc (.cells #[.pointer none, .slice none 0 0] 61)) := Lib.IsBuilderF.of (Lib.fresh_isBuilder 61 5 W)
theorem write_any (b : Nat) (out s : ByteArray) (w : World) (h : Bld b out w) (hs : out.size + s.size ≤ 100000) :
    Calls Tryd.prog 26 #[.pointer (some ⟨b, 0, none⟩), .string s] w fun e w' => e = .returned (.tuple #[.int .i64 s.size, .nilIface]) ∧ Bld b (out ++ s) w' ∧ Below b w w' ∧ Lib.OthersKept 5 (some b) w w' := by
  refine (Tryd.Builder_WriteString_k b b _ s w h (by
    rw [Lib.byteCells_length, Array.length_toList]
    show out.size + s.size ≤ _
    omega) (Nat.le_of_lt h.lt)).mono ?_
  rintro e w' ⟨he, h1, h2, h3⟩
  refine ⟨he, ?_, h2, h3⟩
  unfold Bld
  rw [show (out ++ s).data.toList = out.data.toList ++ s.data.toList by simp [ByteArray.data_append], Lib.byteCells_append]
  exact .inr h1
theorem string_any (b : Nat) (out : ByteArray) (w : World) (h : Bld b out w) :
    Calls Tryd.prog 28 #[.pointer (some ⟨b, 0, none⟩)] w fun e w' => e = .returned (.string out) ∧ Below b w w' := by
  refine (Tryd.Builder_String_any_k b b _ w h (Nat.le_of_lt h.lt)).mono ?_
  rintro e w' ⟨he, _, h2, _⟩
  exact ⟨he, h2⟩
theorem itoa_any (n : Nat) (w : World) (hn : n ≤ 1000000000) (htab : Lib.TabIs Tryd.prog w "internal/strconv.uint64pow10" .u64 Lib.pow10Tab) :
    Calls Tryd.prog 27 #[.int .i64 (n : Int)] w fun e w' => e = .returned (.string (decS (n : Int))) ∧ Below w.heap.size w w' := by
  refine (Tryd.strconv_Itoa (n : Int) (by omega) (by omega) w htab).mono ?_
  rintro e w' ⟨he, k, os, rfl⟩
  exact ⟨he, grown_below _ _ _⟩
/-- A block of cells that hold no bytes. -/
def Kx (W : World) (g : Nat) (vs : List Value) (t : TypeId) : Prop := W.heap[g]? = some (.cells vs.toArray t)
theorem Kx.new (W : World) (vs : List Value) (t : TypeId) : Kx (W.alloc (.cells vs.toArray t)) W.heap.size vs t := by
  unfold Kx
  rw [(MapKept.heap_alloc W _).1]
theorem Kx.lt {W : World} {g : Nat} {vs : List Value} {t : TypeId} (h : Kx W g vs t) : g < W.heap.size := (Array.getElem?_eq_some_iff.1 h).1
theorem Kx.below {W W1 : World} {g : Nat} {vs : List Value} {t : TypeId} (h : Kx W g vs t) (hb : Below W.heap.size W W1) : Kx W1 g vs t := (hb.block g h.lt).trans h
theorem Kx.kept {b : Nat} {W W1 : World} {g : Nat} {vs : List Value} {t : TypeId} (h : Kx W g vs t) (ho : Lib.OthersKept 5 (some b) W W1) (hg : g ≠ b) (ht : t ≠ 5) : Kx W1 g vs t :=
  ho g _ h (fun e => by injection e with e; exact hg e) (fun c fz e => by injection e with _ e _; exact ht e)
theorem Kx.bx {W : World} {g : Nat} {vs : List Value} {t : TypeId} (h : Kx W g vs t) : Bx W g vs := by
  refine ⟨h.lt, fun i v hv => ?_, fun i => ?_⟩
  · unfold World.cell?
    rw [h]
    simp [hv]
  · unfold World.frozen?
    rw [h]
    rfl
theorem ok_below {b : Option Nat} {W W1 : World} (hb : Below W.heap.size W W1) : Lib.OthersKept 5 b W W1 := fun k o hk _ _ => (hb.block k (Array.getElem?_eq_some_iff.1 hk).1).trans hk
theorem below_lowerW {a b : Nat} {w w1 w2 : World} (h : Below a w w1) (k : Below b w1 w2) (hab : a ≤ b) : Below a w w2 :=
  h.trans ⟨k.os, k.tape, k.output, k.size, fun i hi => k.block i (Nat.lt_of_lt_of_le hi hab)⟩
theorem Bx.underW {W w1 : World} {base b : Nat} {vs : List Value} (h : Bx W b vs) (hb : Below base W w1) (hlt : b < base) : Bx w1 b vs :=
  ⟨Nat.lt_of_lt_of_le h.lt hb.size, fun i v hv => (hb.cell (p := ⟨b, i, none⟩) hlt).trans (h.c i v hv), fun i => (hb.frozen (p := ⟨b, i, none⟩) hlt).trans (h.f i)⟩
set_option maxRecDepth 100000 in
set_option maxHeartbeats 16000000 in
theorem implWrite_any (n : NetT) (u : (Option Addr × Nat) × (Option Addr × Nat)) (w : World) (hr : RdNet 56 w u n) (hf : NetFits n) (htab : Lib.TabIs Tryd.prog w "internal/strconv.uint64pow10" .u64 Lib.pow10Tab) :
    Calls Tryd.prog 9 #[.agg #[.slice u.1.1 n.pieces.length u.1.2, .slice u.2.1 n.joints.length u.2.2]] w
      fun e w' => e = .returned (.string (writeV n)) ∧ Below w.heap.size w w' := by
  have HT := Aside0.mk (tabB_of htab)
  clear htab
  obtain ⟨⟨A0, c0⟩, ⟨A1, c1⟩⟩ := u
  have HR := Aside0.mk hr
  have HF := Aside0.mk hf
  obtain ⟨ga, hga⟩ : ∃ g, g = netGood n := ⟨_, rfl⟩
  have HGD := Aside0.mk hga.symm
  obtain ⟨W0, hW0⟩ : ∃ W0, W0 = w.alloc (.cells #[.slice A0 n.pieces.length c0, .slice A1 n.joints.length c1] 31) := ⟨_, rfl⟩
  have FB : Aside0 (Below w.heap.size w W0) := ⟨by rw [hW0]; exact below_alloc (Below.refl _ _) _⟩
  have HN : Aside0 (Bx W0 w.heap.size [.slice A0 n.pieces.length c0, .slice A1 n.joints.length c1]) := ⟨by rw [hW0]; exact Bx.new w _ 31⟩
  have HW := Aside0.mk hW0
  clear hr hf hga hW0
  go_enter Tryd.func9, Tryd.ntmps9
  go_upto_region 1 with (fail)
  rw [← HW.out]
  have n0 := HN.out.c 0 _ rfl; have n1 := HN.out.c 1 _ rfl
  go_wp2_with fail
  (with_reducible refine Calls.mono (good_any n ((A0, c0), (A1, c1)) _ (HR.out.below FB.out) HF.out) ?_)
  rintro e w2 ⟨rfl, b2⟩
  rw [HGD.out]
  have N2 := Aside0.mk (HN.out.below b2)
  have B2 := Aside0.mk (below_more FB.out b2)
  clear n0 n1 b2
  cases ga with
  | false =>
    have HV : Aside0 (writeV n = ⟨#[]⟩) := ⟨by unfold writeV; rw [HGD.out]; rfl⟩
    go_wp2_with fail
    go_ret
    exact ⟨by rw [HV.out]; rfl, B2.out⟩
  | true =>
    have hg := Good.of HGD.out
    have HG := Aside0.mk hg
    have hp100 : n.pieces.length ≤ 100 := hg.p1
    have hj120 : n.joints.length ≤ 120 := hg.j1
    clear hg
    have n0 := N2.out.c 0 _ rfl; have n1 := N2.out.c 1 _ rfl
    obtain ⟨W3, hW3⟩ : ∃ W3, W3 = w2.alloc (.cells #[.pointer none, .slice none 0 0] 61) := ⟨_, rfl⟩
    have b3 : Below w2.heap.size w2 W3 := by rw [hW3]; exact below_alloc (Below.refl _ _) _
    have HB3 : Aside0 (Bld w2.heap.size (piecesW (n.pieces.take 0)) W3) := ⟨by rw [hW3]; exact Bld.new w2⟩
    have Q3 := Aside0.mk b3
    have N3 := Aside0.mk (N2.out.below b3)
    have HW3 := Aside0.mk hW3
    have HZ2 := Aside0.mk (show w.heap.size < w2.heap.size from N2.out.lt)
    clear b3 hW3 n0 n1
    go_upto_region 4 with (fail)
    rw [← HW3.out]
    have n0 := N3.out.c 0 _ rfl; have n1 := N3.out.c 1 _ rfl
    go_wp2_with fail
    clear n0 n1
    go_loopw [16] (fun v16 wr => ∃ (i : Nat), v16 = .int .i64 (i : Int) ∧ i ≤ n.pieces.length ∧ Aside0 (Bld w2.heap.size (piecesW (n.pieces.take i)) wr) ∧ Aside0 (Below w2.heap.size w2 wr)) (fun v16 _ => n.pieces.length - (intOf v16).toNat)
    case atStart => exact ⟨0, rfl, Nat.zero_le _, HB3, Q3⟩
    case round =>
      obtain ⟨i, rfl, hi, HO, QO⟩ := hrel
      obtain ⟨WO, hWO⟩ : ∃ WO : World, WO = wr := ⟨_, rfl⟩
      subst hWO
      have NO := Aside0.mk (N2.out.below QO.out)
      have BO := Aside0.mk (below_more B2.out QO.out)
      by_cases hlt : i < n.pieces.length
      · have hfit := HG.out.fits hlt
        have hos := piecesW_size HG.out i hi
        obtain ⟨ad, ea, y0, y1, y2, y3⟩ := at_Piece (HR.out.below BO.out).1.1 i hlt
        simp only at ea
        subst ea
        have hnx := piecesW_next n.pieces i hlt
        obtain ⟨⟨nm, ln, sp, br⟩, hp⟩ : ∃ p, p = n.pieces.getD i default := ⟨_, rfl⟩
        rw [← hp] at y0 y1 y2 y3 hfit hnx
        simp only at y0 y1 y2 y3
        have f1 := hfit.nm; have f2 := hfit.l0; have f3 := hfit.l1; have f4 := hfit.s0; have f5 := hfit.s1; have f6 := hfit.b0; have f7 := hfit.b1
        simp only at f1 f2 f3 f4 f5 f6 f7
        obtain ⟨l1, hl1⟩ := Int.eq_ofNat_of_zero_le f2
        obtain ⟨p1, hp1⟩ := Int.eq_ofNat_of_zero_le f4
        obtain ⟨b1, hb1⟩ := Int.eq_ofNat_of_zero_le f6
        subst hl1
        subst hp1
        subst hb1
        have z1 := decS_len (n := (l1 : Int)) (by omega) (by omega)
        have z2 := decS_len (n := (p1 : Int)) (by omega) (by omega)
        have z3 := decS_len (n := (b1 : Int)) (by omega) (by omega)
        unfold lineP at hnx
        simp only at hnx
        obtain ⟨t1, ht1⟩ : ∃ t, t = decS (l1 : Int) := ⟨_, rfl⟩
        obtain ⟨t2, ht2⟩ : ∃ t, t = decS (p1 : Int) := ⟨_, rfl⟩
        obtain ⟨t3, ht3⟩ : ∃ t, t = decS (b1 : Int) := ⟨_, rfl⟩
        rw [← ht1] at z1 hnx
        rw [← ht2] at z2 hnx
        rw [← ht3] at z3 hnx
        have D1 := Aside0.mk ht1.symm
        have D2 := Aside0.mk ht2.symm
        have D3 := Aside0.mk ht3.symm
        obtain ⟨s1, hs1⟩ : ∃ s, s = (⟨#[112, 105, 101, 99, 101, 32]⟩ : ByteArray) ++ nm := ⟨_, rfl⟩
        obtain ⟨s2, hs2⟩ : ∃ s, s = s1 ++ (⟨#[32]⟩ : ByteArray) := ⟨_, rfl⟩
        obtain ⟨s3, hs3⟩ : ∃ s, s = s2 ++ t1 := ⟨_, rfl⟩
        obtain ⟨s4, hs4⟩ : ∃ s, s = s3 ++ (⟨#[32, 115, 112, 101, 101, 100, 32]⟩ : ByteArray) := ⟨_, rfl⟩
        obtain ⟨s5, hs5⟩ : ∃ s, s = s4 ++ t2 := ⟨_, rfl⟩
        obtain ⟨s6, hs6⟩ : ∃ s, s = s5 ++ (⟨#[32, 98, 114, 97, 107, 101, 32]⟩ : ByteArray) := ⟨_, rfl⟩
        obtain ⟨s7, hs7⟩ : ∃ s, s = s6 ++ t3 := ⟨_, rfl⟩
        obtain ⟨s8, hs8⟩ : ∃ s, s = s7 ++ (⟨#[10]⟩ : ByteArray) := ⟨_, rfl⟩
        rw [← hs1, ← hs2, ← hs3, ← hs4, ← hs5, ← hs6, ← hs7, ← hs8] at hnx
        have HNX := Aside0.mk hnx
        have q1 : s1.size = 6 + nm.size := by rw [hs1, app_size]; rfl
        have q2 : s2.size = s1.size + 1 := by rw [hs2, app_size]; rfl
        have q3 : s3.size = s2.size + t1.size := by rw [hs3, app_size]
        have q4 : s4.size = s3.size + 7 := by rw [hs4, app_size]; rfl
        have q5 : s5.size = s4.size + t2.size := by rw [hs5, app_size]
        have q6 : s6.size = s5.size + 7 := by rw [hs6, app_size]; rfl
        have q7 : s7.size = s6.size + t3.size := by rw [hs7, app_size]
        have q8 : s8.size = s7.size + 1 := by rw [hs8, app_size]; rfl
        have k1 := cat_eq _ _ _ hs1 (by show 6 + nm.size ≤ 100000; omega)
        have k2 := cat_eq _ _ _ hs2 (by show s1.size + 1 ≤ 100000; omega)
        have k3 := cat_eq _ _ _ hs3 (by omega)
        have k4 := cat_eq _ _ _ hs4 (by show s3.size + 7 ≤ 100000; omega)
        have k5 := cat_eq _ _ _ hs5 (by omega)
        have k6 := cat_eq _ _ _ hs6 (by show s5.size + 7 ≤ 100000; omega)
        have k7 := cat_eq _ _ _ hs7 (by omega)
        have k8 := cat_eq _ _ _ hs8 (by show s7.size + 1 ≤ 100000; omega)
        have HSZ := Aside0.mk (show (piecesW (n.pieces.take i)).size + s8.size ≤ 100000 by omega)
        have HL1 := Aside0.mk (show l1 ≤ 1000000000 ∧ p1 ≤ 1000000000 ∧ b1 ≤ 1000000000 by omega)
        obtain ⟨W6, hW6⟩ : ∃ W6, W6 = WO.alloc (.cells #[.string nm, .int .i64 (l1 : Int), .int .i64 (p1 : Int), .int .i64 (b1 : Int)] 49) := ⟨_, rfl⟩
        have b6 : Below WO.heap.size WO W6 := by rw [hW6]; exact below_alloc (Below.refl _ _) _
        have X6 : Aside0 (Kx W6 WO.heap.size [.string nm, .int .i64 (l1 : Int), .int .i64 (p1 : Int), .int .i64 (b1 : Int)] 49) := ⟨by rw [hW6]; exact Kx.new WO _ 49⟩
        have Q6 := Aside0.mk (below_more QO.out b6)
        have HB6 := Aside0.mk (HO.out.below b6)
        have HT6 : Aside0 (TabB W6) := ⟨HT.out.below (below_more BO.out b6)⟩
        have HZ6 : Aside0 (w2.heap.size < WO.heap.size ∧ WO.heap.size < W6.heap.size) := ⟨HO.out.lt, X6.out.lt⟩
        have HW6 := Aside0.mk hW6
        have hi0 : (0 : Int) ≤ (i : Int) := by omega
        have hi1 : (i : Int) < (n.pieces.length : Int) := by omega
        have n0 := NO.out.c 0 _ rfl
        clear hW6 b6 hp hfit hnx hos f1 f2 f3 f4 f5 f6 f7 z1 z2 z3 ht1 ht2 ht3 hs1 hs2 hs3 hs4 hs5 hs6 hs7 hs8 q1 q2 q3 q4 q5 q6 q7 q8
        go_upto_region 7 with (fail)
        rw [← HW6.out]
        clear y0 y1 y2 y3 n0
        have HS0 : Aside0 (∀ W, Below w2.heap.size W6 W → Lib.OthersKept 5 (some w2.heap.size) W6 W → (Below w2.heap.size W6 W ∧ Lib.OthersKept 5 (some w2.heap.size) W6 W ∧ W.cell? ⟨WO.heap.size, 0, none⟩ = some (.string nm) ∧ W.cell? ⟨WO.heap.size, 1, none⟩ = some (.int .i64 (l1 : Int)) ∧ W.cell? ⟨WO.heap.size, 2, none⟩ = some (.int .i64 (p1 : Int)) ∧ W.cell? ⟨WO.heap.size, 3, none⟩ = some (.int .i64 (b1 : Int)))) := ⟨fun W hb ho => by
          have hk := (X6.out.kept ho (by have := HZ6.out; omega) (by decide)).bx
          exact ⟨hb, ho, hk.c 0 _ rfl, hk.c 1 _ rfl, hk.c 2 _ rfl, hk.c 3 _ rfl⟩⟩
        go_region_held3 (fun W => Below w2.heap.size W6 W ∧ Lib.OthersKept 5 (some w2.heap.size) W6 W ∧ W.cell? ⟨WO.heap.size, 0, none⟩ = some (.string nm) ∧ W.cell? ⟨WO.heap.size, 1, none⟩ = some (.int .i64 (l1 : Int)) ∧ W.cell? ⟨WO.heap.size, 2, none⟩ = some (.int .i64 (p1 : Int)) ∧ W.cell? ⟨WO.heap.size, 3, none⟩ = some (.int .i64 (b1 : Int)))
          (first | (with_reducible assumption) | (with_reducible exact HS0.out _ (by first | (with_reducible assumption) | exact Below.drew (Below.refl _ _)) (by first | (with_reducible assumption) | exact Lib.OthersKept.drew (Lib.OthersKept.refl _ _ _))))
          (first
            | (go_at_call 27; go_split_ands; (with_reducible refine Calls.mono (itoa_any l1 _ HL1.out.1 (HT6.out.at_ (by first | (with_reducible assumption) | exact Below.drew (Below.refl _ _)))) ?_); rintro e q1 ⟨rfl, b3⟩; rw [D1.out]; have hx1 : Below W6.heap.size W6 q1 := below_more (by first | (with_reducible assumption) | exact Below.drew (Below.refl _ _)) b3; have hy1 : Below w2.heap.size W6 q1 := below_lowerW (Below.refl _ _) hx1 (by have := HZ6.out; omega); have ho1 : Lib.OthersKept 5 (some w2.heap.size) W6 q1 := ok_below hx1; clear b3)
            | (go_at_call 27; go_split_ands; (with_reducible refine Calls.mono (itoa_any p1 _ HL1.out.2.1 (HT6.out.at_ (by first | (with_reducible assumption) | exact Below.drew (Below.refl _ _)))) ?_); rintro e q2 ⟨rfl, b3⟩; rw [D2.out]; have hx2 : Below W6.heap.size W6 q2 := below_more (by first | (with_reducible assumption) | exact Below.drew (Below.refl _ _)) b3; have hy2 : Below w2.heap.size W6 q2 := below_lowerW (Below.refl _ _) hx2 (by have := HZ6.out; omega); have ho2 : Lib.OthersKept 5 (some w2.heap.size) W6 q2 := ok_below hx2; clear b3)
            | (go_at_call 27; go_split_ands; (with_reducible refine Calls.mono (itoa_any b1 _ HL1.out.2.2 (HT6.out.at_ (by first | (with_reducible assumption) | exact Below.drew (Below.refl _ _)))) ?_); rintro e q3 ⟨rfl, b3⟩; rw [D3.out]; have hx3 : Below W6.heap.size W6 q3 := below_more (by first | (with_reducible assumption) | exact Below.drew (Below.refl _ _)) b3; have hy3 : Below w2.heap.size W6 q3 := below_lowerW (Below.refl _ _) hx3 (by have := HZ6.out; omega); have ho3 : Lib.OthersKept 5 (some w2.heap.size) W6 q3 := ok_below hx3; clear b3)
            | (go_at_call 26; go_split_ands; (with_reducible refine Calls.mono (write_any w2.heap.size (piecesW (n.pieces.take i)) s8 _ (HB6.out.below (by first | (with_reducible assumption) | exact Below.drew (Below.refl _ _))) HSZ.out) ?_); rintro e q9 ⟨rfl, hbld, hb9, ho9⟩; have hy9 : Below w2.heap.size W6 q9 := below_lowerW (by with_reducible assumption) hb9 (Nat.le_refl _); have hz9 : Lib.OthersKept 5 (some w2.heap.size) W6 q9 := Lib.OthersKept.trans (by with_reducible assumption) ho9; clear hb9 ho9))
        all_goals
          try go_wp2_with fail
          go_roundw
          case rel => exact ⟨i + 1, by go_num, by omega, ⟨by rw [HNX.out]; with_reducible assumption⟩, ⟨below_lowerW Q6.out (by with_reducible assumption) (Nat.le_refl _)⟩⟩
          case measure => simp [intOf]; omega
      · have hie : i = n.pieces.length := by omega
        have hge : ¬ (i : Int) < (n.pieces.length : Int) := by omega
        have HOA : Aside0 (Bld w2.heap.size (jointsW n (n.joints.take 0)) WO) := ⟨by have h := HO.out; rw [hie, List.take_length] at h; exact h⟩
        have n1 := NO.out.c 1 _ rfl
        clear hie hi
        go_wp2_with fail
        clear n1 hge hlt
        go_loopw [44] (fun v44 wr => ∃ (a : Nat), v44 = .int .i64 (a : Int) ∧ a ≤ n.joints.length ∧ Aside0 (Bld w2.heap.size (jointsW n (n.joints.take a)) wr) ∧ Aside0 (Below w2.heap.size w2 wr)) (fun v44 _ => n.joints.length - (intOf v44).toNat)
        case atStart => exact ⟨0, rfl, Nat.zero_le _, HOA, QO⟩
        case round =>
          obtain ⟨a, rfl, ha, HJ, QJ⟩ := hrel
          obtain ⟨WJ, hWJ⟩ : ∃ WJ : World, WJ = wr := ⟨_, rfl⟩
          subst hWJ
          have NJ := Aside0.mk (N2.out.below QJ.out)
          have BJ := Aside0.mk (below_more B2.out QJ.out)
          by_cases hla : a < n.joints.length
          · have hos := jointsW_size HG.out a ha
            have hnx := jointsW_next n n.joints a hla
            obtain ⟨oj, hoj⟩ : ∃ o, o = jointsW n (n.joints.take a) := ⟨_, rfl⟩
            rw [← hoj] at hos hnx HJ
            obtain ⟨hk1, hk2, hk3, hk4⟩ := HG.out.kindAt hla
            have hjn := HG.out.jname hla
            obtain ⟨adj, A2, c2, ej, j0w, j1w, j2w, m0, g0⟩ := at_Joint HR.out.2.1 a hla
            have j0 := pw_cell_below BJ.out j0w; have j1 := pw_cell_below BJ.out j1w; have j2 := pw_cell_below BJ.out j2w
            clear j0w j1w j2w
            simp only at ej
            subst ej
            obtain ⟨⟨kd, jn, es⟩, hj⟩ : ∃ j, j = n.joints.getD a default := ⟨_, rfl⟩
            rw [← hj] at j0 j1 j2 m0 g0 hk1 hk2 hk3 hk4 hjn hnx
            simp only at j0 j1 j2 m0 g0 hk1 hk2 hk3 hk4 hjn
            obtain ⟨kn, hkn⟩ := Int.eq_ofNat_of_zero_le (show 0 ≤ kd by omega)
            subst hkn
            have hkn1 : kn < 5 := by omega
            have HEB := Aside0.mk hk4
            have HCE2 : Aside0 (∀ W, Below w.heap.size w W → Kd.C kEnd W A2 es.length es) := ⟨fun W hb => Kd.C_below g0 hb⟩
            have hes5 : es.length ≤ 4 := by omega
            obtain ⟨ks, hks⟩ : ∃ s, s = kindS (kn : Int) := ⟨_, rfl⟩
            have hksz : ks.size ≤ 6 := by rw [hks]; exact kindS_size _
            obtain ⟨o1, ho1⟩ : ∃ s, s = oj ++ ks := ⟨_, rfl⟩
            obtain ⟨nj, hnj⟩ : ∃ s, s = (⟨#[32]⟩ : ByteArray) ++ jn := ⟨_, rfl⟩
            obtain ⟨o2, ho2⟩ : ∃ s, s = o1 ++ nj := ⟨_, rfl⟩
            obtain ⟨oh, hoh⟩ : ∃ s, s = headJ oj ⟨(kn : Int), jn, es⟩ := ⟨_, rfl⟩
            have hohs : oh.size ≤ oj.size + 27 := by rw [hoh]; exact headJ_size hjn
            have q1 : o1.size = oj.size + ks.size := by rw [ho1, app_size]
            have q2 : nj.size = 1 + jn.size := by rw [hnj, app_size]; rfl
            have k2 := cat_eq _ _ _ hnj (by show 1 + jn.size ≤ 100000; omega)
            have HOH : Aside0 (oh = if jn = ⟨#[]⟩ then o1 else o2) := ⟨by rw [hoh]; unfold headJ nameS; simp only; rw [ho2, hnj, ho1, hks]⟩
            have HOS := Aside0.mk (show oh.size ≤ 30000 ∧ oj.size + ks.size ≤ 100000 ∧ o1.size + nj.size ≤ 100000 by omega)
            have HO1 := Aside0.mk ho1
            have HO2 := Aside0.mk ho2
            have HNX : Aside0 (jointsW n (n.joints.take (a + 1)) = endsJ n oh es ++ ⟨#[10]⟩) := ⟨by rw [hnx]; unfold jointW; rw [← hoh]⟩
            obtain ⟨W11, hW11⟩ : ∃ W11, W11 = WJ.alloc (.cells #[.int .i64 (kn : Int), .string jn, .slice A2 es.length c2] 53) := ⟨_, rfl⟩
            have b11 : Below WJ.heap.size WJ W11 := by rw [hW11]; exact below_alloc (Below.refl _ _) _
            have X11 : Aside0 (Kx W11 WJ.heap.size [.int .i64 (kn : Int), .string jn, .slice A2 es.length c2] 53) := ⟨by rw [hW11]; exact Kx.new WJ _ 53⟩
            have HW11 := Aside0.mk hW11
            obtain ⟨W12, hW12⟩ : ∃ W12, W12 = W11.alloc (.cells #[.string ⟨#[]⟩, .string ⟨#[101, 110, 100]⟩, .string ⟨#[106, 111, 105, 110]⟩, .string ⟨#[115, 119, 105, 116, 99, 104]⟩, .string ⟨#[99, 114, 111, 115, 115]⟩] 9) := ⟨_, rfl⟩
            have b12 : Below W11.heap.size W11 W12 := by rw [hW12]; exact below_alloc (Below.refl _ _) _
            have Y12 : Bx W12 W11.heap.size [.string ⟨#[]⟩, .string ⟨#[101, 110, 100]⟩, .string ⟨#[106, 111, 105, 110]⟩, .string ⟨#[115, 119, 105, 116, 99, 104]⟩, .string ⟨#[99, 114, 111, 115, 115]⟩] := by rw [hW12]; exact Bx.new W11 _ 9
            have hkc : W12.cell? ⟨W11.heap.size, kn, none⟩ = some (.string ks) := by
              rw [hks]
              rcases (by omega : kn = 1 ∨ kn = 2 ∨ kn = 3 ∨ kn = 4) with h | h | h | h <;> subst h
              · exact Y12.c 1 _ rfl
              · exact Y12.c 2 _ rfl
              · exact Y12.c 3 _ rfl
              · exact Y12.c 4 _ rfl
            rw [hW12] at hkc
            have hkc2 : ((W11.alloc (.cells #[.string ⟨#[]⟩, .string ⟨#[101, 110, 100]⟩, .string ⟨#[106, 111, 105, 110]⟩, .string ⟨#[115, 119, 105, 116, 99, 104]⟩, .string ⟨#[99, 114, 111, 115, 115]⟩] 9))).cell? ((⟨W11.heap.size, 0, none⟩ : Addr).add kn) = some (.string ks) := by
              have e : (⟨W11.heap.size, 0, none⟩ : Addr).add kn = ⟨W11.heap.size, kn, none⟩ := by
                unfold Addr.add
                split
                · rename_i h; rw [h]
                · simp
              rw [e]; exact hkc
            have X12 := Aside0.mk (X11.out.below b12)
            have Q12 := Aside0.mk (below_more (below_more QJ.out b11) b12)
            have HB12 := Aside0.mk ((HJ.out.below b11).below b12)
            have QJ12 := Aside0.mk (below_more b11 b12)
            have HZ12 := Aside0.mk (show w2.heap.size < WJ.heap.size from HJ.out.lt)
            have HW12 := Aside0.mk hW12
            have n1 := NJ.out.c 1 _ rfl
            have ha0 : (0 : Int) ≤ (a : Int) := by omega
            have ha1 : (a : Int) < (n.joints.length : Int) := by omega
            have hk0 : (0 : Int) ≤ (kn : Int) := by omega
            have hk5 : (kn : Int) < 5 := by omega
            clear hW11 hW12 b11 b12 Y12 hj hnx hos hk1 hk2 hk3 hk4 hjn m0 g0 hks hksz ho1 hnj ho2 hoh hohs q1 q2 hoj
            go_upto_region 12 with (fail)
            rw [← HW11.out]
            clear j0 j1 j2 n1
            have x0 := X12.out.bx.c 0 _ rfl
            rw [HW12.out] at x0
            go_wp2_with fail
            rw [← HW12.out]
            clear x0 hkc hkc2 hk0 hk5
            (with_reducible refine Calls.mono (write_any w2.heap.size oj ks _ HB12.out HOS.out.2.1) ?_)
            rintro e w13 ⟨rfl, hbld, hb13, ho13⟩
            have HB13 : Aside0 (Bld w2.heap.size o1 w13) := ⟨by rw [HO1.out]; exact hbld⟩
            have X13 := Aside0.mk (X12.out.kept ho13 (by have := HZ12.out; omega) (by decide))
            have Q13 := Aside0.mk (below_lowerW Q12.out hb13 (Nat.le_refl _))
            clear hbld hb13 ho13
            have x1 := X13.out.bx.c 1 _ rfl
            go_upto_if 56 with (fail)
            go_cut [57] (fun s W => Aside0 (Bld w2.heap.size oh W) ∧ Aside0 (Kx W WJ.heap.size [.int .i64 (kn : Int), .string jn, .slice A2 es.length c2] 53) ∧ Aside0 (Below w2.heap.size w2 W))
            case first =>
              cases hem : jn.toList.isEmpty with
              | true =>
                have he : jn = ⟨#[]⟩ := empty_is hem
                have HOO : Aside0 (oh = o1) := ⟨by rw [HOH.out, if_pos he]⟩
                clear he
                go_wp2_with fail
                go_meet
                case rel => exact ⟨⟨by rw [HOO.out]; exact HB13.out⟩, X13, Q13⟩
              | false =>
                have he : ¬ jn = ⟨#[]⟩ := fun h => by rw [h, empty_no] at hem; cases hem
                have HOO : Aside0 (oh = o2) := ⟨by rw [HOH.out, if_neg he]⟩
                clear he
                go_wp2_with fail
                (with_reducible refine Calls.mono (write_any w2.heap.size o1 nj _ HB13.out HOS.out.2.2) ?_)
                rintro e w14 ⟨rfl, hbld, hb14, ho14⟩
                have HB14 : Aside0 (Bld w2.heap.size oh w14) := ⟨by rw [HOO.out, HO2.out]; exact hbld⟩
                have X14 := Aside0.mk (X13.out.kept ho14 (by have := HZ12.out; omega) (by decide))
                have Q14 := Aside0.mk (below_lowerW Q13.out hb14 (Nat.le_refl _))
                clear hbld hb14 ho14
                go_wp2_with fail
                go_meet
                case rel => exact ⟨HB14, X14, Q14⟩
            case rest =>
            obtain ⟨HB15, X15, Q15⟩ := hcut
            clear k2 x1
            have x2 := X15.out.bx.c 2 _ rfl
            go_wp2_with fail
            clear x2
            go_loopw [64] (fun v64 wr => ∃ (q : Nat), v64 = .int .i64 (q : Int) ∧ q ≤ es.length ∧ Aside0 (Bld w2.heap.size (endsJ n oh (es.take q)) wr) ∧ Aside0 (Below w2.heap.size w2 wr)) (fun v64 _ => es.length - (intOf v64).toNat)
            case atStart => exact ⟨0, rfl, Nat.zero_le _, HB15, Q15⟩
            case round =>
              obtain ⟨q, rfl, hq, HE, QE⟩ := hrel
              obtain ⟨WE, hWE⟩ : ∃ WE : World, WE = wr := ⟨_, rfl⟩
              subst hWE
              by_cases hlq : q < es.length
              · have hos := endsJ_size HG.out oh es HEB.out q hq
                have hnx := endsJ_next n oh es q hlq
                have hee := HEB.out q hlq
                have BE := Aside0.mk (below_more B2.out QE.out)
                have NE := Aside0.mk (N2.out.below QE.out)
                have hce : Kd.C kEnd WE A2 es.length es := by
                  exact HCE2.out WE BE.out
                obtain ⟨ade, ee, y0, y1⟩ := at_End hce q hlq
                subst ee
                obtain ⟨⟨ep, sd⟩, he⟩ : ∃ e, e = es.getD q default := ⟨_, rfl⟩
                rw [← he] at y0 y1 hee hnx
                simp only at y0 y1
                have hb := endB_iff.1 hee
                simp only at hb
                obtain ⟨pn, hpn⟩ := Int.eq_ofNat_of_zero_le hb.1
                obtain ⟨sn, hsn⟩ := Int.eq_ofNat_of_zero_le hb.2.2.1
                subst hpn
                subst hsn
                have hpl : pn < n.pieces.length := by omega
                have hfit := (HG.out.fits hpl).nm
                unfold endS at hnx
                simp only [Int.toNat_natCast] at hnx
                obtain ⟨nm, hnm⟩ : ∃ s, s = (n.pieces.getD pn default).name := ⟨_, rfl⟩
                rw [← hnm] at hfit hnx
                have HNM : Aside0 (∀ W, Below w.heap.size w W → ∃ ad0, A0 = some ad0 ∧ W.cell? (ad0.add (pn * 4)) = some (.string nm)) := ⟨fun W hb => by
                  obtain ⟨ad, e, z, _⟩ := at_Piece (HR.out.below hb).1.1 pn hpl
                  exact ⟨ad, e, by rw [hnm]; exact z⟩⟩
                obtain ⟨ad0, ea, _⟩ := HNM.out _ (Below.refl _ _)
                subst ea
                have hts := decS_len (n := (sn : Int)) (by omega) (by omega)
                obtain ⟨ts, hts1⟩ : ∃ t, t = decS (sn : Int) := ⟨_, rfl⟩
                rw [← hts1] at hts hnx
                have D1 := Aside0.mk hts1.symm
                obtain ⟨s1, hs1⟩ : ∃ s, s = (⟨#[32]⟩ : ByteArray) ++ nm := ⟨_, rfl⟩
                obtain ⟨s2, hs2⟩ : ∃ s, s = s1 ++ (⟨#[46]⟩ : ByteArray) := ⟨_, rfl⟩
                obtain ⟨s3, hs3⟩ : ∃ s, s = s2 ++ ts := ⟨_, rfl⟩
                rw [← hs1, ← hs2, ← hs3] at hnx
                have HNE := Aside0.mk hnx
                have hoh := HOS.out
                have q1 : s1.size = 1 + nm.size := by rw [hs1, app_size]; rfl
                have q2 : s2.size = s1.size + 1 := by rw [hs2, app_size]; rfl
                have q3 : s3.size = s2.size + ts.size := by rw [hs3, app_size]
                have k1 := cat_eq _ _ _ hs1 (by show 1 + nm.size ≤ 100000; omega)
                have k2 := cat_eq _ _ _ hs2 (by show s1.size + 1 ≤ 100000; omega)
                have k3 := cat_eq _ _ _ hs3 (by omega)
                have HSZ := Aside0.mk (show (endsJ n oh (es.take q)).size + s3.size ≤ 100000 by omega)
                have HSN := Aside0.mk (show sn ≤ 1000000000 by omega)
                obtain ⟨W17, hW17⟩ : ∃ W17, W17 = WE.alloc (.cells #[.int .i64 (pn : Int), .int .i64 (sn : Int)] 56) := ⟨_, rfl⟩
                have b17 : Below WE.heap.size WE W17 := by rw [hW17]; exact below_alloc (Below.refl _ _) _
                have X17 : Aside0 (Kx W17 WE.heap.size [.int .i64 (pn : Int), .int .i64 (sn : Int)] 56) := ⟨by rw [hW17]; exact Kx.new WE _ 56⟩
                have N17 := Aside0.mk (NE.out.below b17)
                have Q17 := Aside0.mk (below_more QE.out b17)
                have B17 := Aside0.mk (below_more BE.out b17)
                have HB17 := Aside0.mk (HE.out.below b17)
                have HT17 := Aside0.mk (HT.out.below B17.out)
                have HZ17 : Aside0 (w2.heap.size < WE.heap.size ∧ WE.heap.size < W17.heap.size ∧ w.heap.size < w2.heap.size) := ⟨HE.out.lt, X17.out.lt, HZ2.out⟩
                have HW17 := Aside0.mk hW17
                have hq0 : (0 : Int) ≤ (q : Int) := by omega
                have hq1 : (q : Int) < (es.length : Int) := by omega
                have hp0 : (0 : Int) ≤ (pn : Int) := by omega
                have hp1 : (pn : Int) < (n.pieces.length : Int) := by omega
                clear hW17 b17 he hee hb hfit hnx hos hts hts1 hnm hs1 hs2 hs3 q1 q2 q3 hoh hpl hce
                go_upto_region 18 with (fail)
                rw [← HW17.out]
                clear y0 y1 hq0 hq1
                have HS0 : Aside0 (∀ W, Below w2.heap.size W17 W → Lib.OthersKept 5 (some w2.heap.size) W17 W → (Below w2.heap.size W17 W ∧ Lib.OthersKept 5 (some w2.heap.size) W17 W ∧ W.cell? ⟨w.heap.size, 0, none⟩ = some (.slice (some ad0) n.pieces.length c0) ∧ W.cell? ⟨WE.heap.size, 0, none⟩ = some (.int .i64 (pn : Int)) ∧ W.cell? ⟨WE.heap.size, 1, none⟩ = some (.int .i64 (sn : Int)) ∧ W.cell? (ad0.add (pn * 4)) = some (.string nm))) := ⟨fun W hb ho => by
                  have hk := (X17.out.kept ho (by have := HZ17.out; omega) (by decide)).bx
                  obtain ⟨ad, e, z⟩ := HNM.out W (below_lowerW B17.out hb (by have := HZ17.out; omega))
                  injection e with e
                  subst e
                  exact ⟨hb, ho, (N17.out.underW hb (by have := HZ17.out; omega)).c 0 _ rfl, hk.c 0 _ rfl, hk.c 1 _ rfl, z⟩⟩
                go_region_held3 (fun W => Below w2.heap.size W17 W ∧ Lib.OthersKept 5 (some w2.heap.size) W17 W ∧ W.cell? ⟨w.heap.size, 0, none⟩ = some (.slice (some ad0) n.pieces.length c0) ∧ W.cell? ⟨WE.heap.size, 0, none⟩ = some (.int .i64 (pn : Int)) ∧ W.cell? ⟨WE.heap.size, 1, none⟩ = some (.int .i64 (sn : Int)) ∧ W.cell? (ad0.add (pn * 4)) = some (.string nm))
                  (first | (with_reducible assumption) | (with_reducible exact HS0.out _ (by first | (with_reducible assumption) | exact Below.drew (Below.refl _ _)) (by first | (with_reducible assumption) | exact Lib.OthersKept.drew (Lib.OthersKept.refl _ _ _))))
                  (first
                    | (go_at_call 27; go_split_ands; (with_reducible refine Calls.mono (itoa_any sn _ HSN.out (HT17.out.at_ (by first | (with_reducible assumption) | exact Below.drew (Below.refl _ _)))) ?_); rintro e q1 ⟨rfl, b3⟩; rw [D1.out]; have hx1 : Below W17.heap.size W17 q1 := below_more (by first | (with_reducible assumption) | exact Below.drew (Below.refl _ _)) b3; have hy1 : Below w2.heap.size W17 q1 := below_lowerW (Below.refl _ _) hx1 (by have := HZ17.out; omega); have ho1 : Lib.OthersKept 5 (some w2.heap.size) W17 q1 := ok_below hx1; clear b3)
                    | (go_at_call 26; go_split_ands; (with_reducible refine Calls.mono (write_any w2.heap.size (endsJ n oh (es.take q)) s3 _ (HB17.out.below (by first | (with_reducible assumption) | exact Below.drew (Below.refl _ _))) HSZ.out) ?_); rintro e q9 ⟨rfl, hbld, hb9, ho9⟩; have hy9 : Below w2.heap.size W17 q9 := below_lowerW (by with_reducible assumption) hb9 (Nat.le_refl _); have hz9 : Lib.OthersKept 5 (some w2.heap.size) W17 q9 := Lib.OthersKept.trans (by with_reducible assumption) ho9; clear hb9 ho9))
                all_goals
                  try go_wp2_with fail
                  go_roundw
                  case rel => exact ⟨q + 1, by go_num, by omega, ⟨by rw [HNE.out]; with_reducible assumption⟩, ⟨below_lowerW Q17.out (by with_reducible assumption) (Nat.le_refl _)⟩⟩
                  case measure => simp [intOf]; omega
              · have hqe : q = es.length := by omega
                have hge : ¬ (q : Int) < (es.length : Int) := by omega
                have hos := endsJ_size HG.out oh es HEB.out q hq
                have hoh := HOS.out
                have HSZ : Aside0 ((endsJ n oh (es.take q)).size + (⟨#[10]⟩ : ByteArray).size ≤ 100000) := ⟨by show (endsJ n oh (es.take q)).size + 1 ≤ 100000; omega⟩
                have HO3 : Aside0 (jointsW n (n.joints.take (a + 1)) = endsJ n oh (es.take q) ++ ⟨#[10]⟩) := ⟨by rw [HNX.out, hqe, List.take_length]⟩
                clear hqe hos hoh
                go_wp2_with fail
                (with_reducible refine Calls.mono (write_any w2.heap.size (endsJ n oh (es.take q)) ⟨#[10]⟩ _ HE.out HSZ.out) ?_)
                rintro e w20 ⟨rfl, hbld, hb20, ho20⟩
                have HB20 : Aside0 (Bld w2.heap.size (jointsW n (n.joints.take (a + 1))) w20) := ⟨by rw [HO3.out]; exact hbld⟩
                have Q20 := Aside0.mk (below_lowerW QE.out hb20 (Nat.le_refl _))
                clear hbld hb20 ho20
                go_wp2_with fail
                go_roundw
                case rel => exact ⟨a + 1, by go_num, by omega, HB20, Q20⟩
                case measure => simp [intOf]; omega
          · have hge : ¬ (a : Int) < (n.joints.length : Int) := by omega
            have HV : Aside0 (writeV n = jointsW n (n.joints.take a)) := ⟨by unfold writeV; rw [HGD.out, if_pos rfl, show a = n.joints.length by omega, List.take_length]⟩
            go_wp2_with fail
            (with_reducible refine Calls.mono (string_any w2.heap.size _ _ HJ.out) ?_)
            rintro e w21 ⟨rfl, hb21⟩
            have B21 := Aside0.mk (below_lowerW BJ.out hb21 (Nat.le_of_lt HZ2.out))
            go_wp2_with fail
            go_ret
            exact ⟨by rw [HV.out]; rfl, B21.out⟩
end Go.Proofs.YtckcffjnffcjcaaDoor
