/- Contract of the reference's copy of a net: the copy's ends lie apart. Conditions: sizes that the model's append can take. -/
import Derived.Test.YtckcffjnffcjcaaGen4
import Derived.Test.YtckcffjnffcjcaaApart
import Derived.Outline
set_option linter.unusedVariables false
set_option linter.unusedSimpArgs false
namespace Go.Proofs.Ytckcffjnffcjcaa
open Go.RowKit Go.Proofs.YtckcffjnffcjcaaW.PrintWords
/-- The state of the copy: the argument's box, the answer's, the new net's. -/
structure CI (w : World) (src : List Value) (pv jv : Value) (ps : List PieceT) (W : World) : Prop where
  src : Bx W w.heap.size src
  res : Bx W (w.heap.size + 1) [.slice none 0 0, .slice none 0 0]
  net : Bx W (w.heap.size + 2) [pv, jv]
  pr : Kd.R kPiece 78 W (w.heap.size + 3) (fun _ => True) pv ps
  b0 : Below w.heap.size w W
section
variable {w : World} {src : List Value} {pv jv : Value} {ps : List PieceT} {W W' : World}
theorem CI.sz (h : CI w src pv jv ps W) : w.heap.size + 3 ≤ W.heap.size := h.net.lt
theorem CI.below (h : CI w src pv jv ps W) (hb : Below W.heap.size W W') : CI w src pv jv ps W' := ⟨h.src.below hb, h.res.below hb, h.net.below hb, Kd.R_below h.pr hb, below_more h.b0 hb⟩
theorem CI.alloc (h : CI w src pv jv ps W) (o : Obj) : CI w src pv jv ps (W.alloc o) := h.below (below_alloc (Below.refl _ _) o)
/-- A row that lies behind the three boxes has grown. -/
theorem CI.grow {row : Option Nat} (h : CI w src pv jv ps W) (hg : W.grownBy W' row) (hne : ∀ g, row = some g → w.heap.size + 3 ≤ g) (hp : Kd.R kPiece 78 W' (w.heap.size + 3) (fun _ => True) pv ps) (hb : Below w.heap.size w W') : CI w src pv jv ps W' := by
  have key : ∀ b, b < w.heap.size + 3 → some b ≠ row := fun b hb he => by
    have := hne b he.symm
    omega
  exact ⟨h.src.grownB hg (key _ (by omega)), h.res.grownB hg (key _ (by omega)), h.net.grownB hg (key _ (by omega)), hp, hb⟩
/-- A store behind the three boxes. -/
theorem CI.far (h : CI w src pv jv ps W) {g i : Nat} {u : Value} (hg : w.heap.size + 3 ≤ g) (hp : Kd.R kPiece 78 (W.setCell ⟨g, i, none⟩ u) (w.heap.size + 3) (fun _ => True) pv ps) : CI w src pv jv ps (W.setCell ⟨g, i, none⟩ u) :=
  ⟨h.src.far (by omega) _, h.res.far (by omega) _, h.net.far (by omega) _, hp, Below.setCell h.b0 (by show w.heap.size ≤ g; omega) _⟩
theorem CI.setP {pv1 : Value} {ps1 : List PieceT} (h : CI w src pv jv ps W) (hg : W.grownBy W' pv.ownBlock) (hp : Kd.R kPiece 78 W' (w.heap.size + 3) (fun _ => True) pv1 ps1) (hb : Below w.heap.size w W') : CI w src pv1 jv ps1 (W'.setCell ⟨w.heap.size + 2, 0, none⟩ pv1) := by
  have key : ∀ b, b < w.heap.size + 3 → some b ≠ pv.ownBlock := fun b hb he => by
    have := Kd.R_base h.pr b he.symm
    omega
  exact ⟨(h.src.grownB hg (key _ (by omega))).far (by omega) _, (h.res.grownB hg (key _ (by omega))).far (by omega) _, (h.net.grownB hg (key _ (by omega))).set (i := 0) (by simp) _, R_apart hp (by show w.heap.size + 2 < _; omega) _, Below.setCell hb (by show w.heap.size ≤ w.heap.size + 2; omega) _⟩
theorem CI.setJ {jv1 : Value} (h : CI w src pv jv ps W) : CI w src pv jv1 ps (W.setCell ⟨w.heap.size + 2, 1, none⟩ jv1) :=
  ⟨h.src.far (by omega) _, h.res.far (by omega) _, h.net.set (i := 1) (by simp) _, R_apart h.pr (by show w.heap.size + 2 < _; omega) _, Below.setCell h.b0 (by show w.heap.size ≤ w.heap.size + 2; omega) _⟩
end
theorem CP.lower {W : World} {base base' : Nat} {jv : Value} {fl : List FlatT} {own : Nat → Int} {js : List JointT} (h : CP W base jv fl own js) (hb : base' ≤ base) : CP W base' jv fl own js :=
  ⟨Kd.R_lower h.outer hb, h.len, fun i hi => by obtain ⟨A, c, h1, h2⟩ := h.each i hi; exact ⟨A, c, h1, Kd.R_lower h2 hb⟩⟩
/-- The owners behind one more joint. -/
def ownUp (own : Nat → Int) (lo hi : Nat) (k : Int) : Nat → Int := fun g => if g < lo then own g else if g < hi then k else -1
theorem copy_outer {WO W : World} {base lo : Nat} {jv : Value} {fl : List FlatT} {own : Nat → Int} {js : List JointT} {k : Int} (h : CP WO base jv fl own js) (hb : Below WO.heap.size WO W) (hlo : WO.heap.size ≤ lo) : Kd.R kFlat 139 W base (fun g => ownUp own lo W.heap.size k g = -1) jv fl :=
  Kd.R_below (Kd.R_mono (Kd.R_bound h.outer) (fun g hg => by
    have := hg.2.2.1
    unfold ownUp
    rw [if_pos (by omega)]; exact hg.1)) hb
theorem copy_more {WO W w9 : World} {base lo : Nat} {jv jv1 : Value} {fl : List FlatT} {own : Nat → Int} {js : List JointT} {j : JointT} {A : Option Addr} {c k : Nat} (hkl : js.length = k) (h : CP WO base jv fl own js) (hb : Below WO.heap.size WO W) (hlo : WO.heap.size ≤ lo) (hbl : base ≤ lo) (hfree : ∀ g, WO.heap.size ≤ g → own g = -1)
    (he : Kd.R kEnd 67 W lo (fun _ => True) (.slice A j.ends.length c) j.ends) (hg : W.grownBy w9 jv.ownBlock)
    (ho : Kd.R kFlat 139 w9 base (fun g => ownUp own lo W.heap.size (k : Int) g = -1) jv1 (fl ++ [(j.kind, j.name, (A, j.ends.length, c))])) :
    CP w9 base jv1 (fl ++ [(j.kind, j.name, (A, j.ends.length, c))]) (ownUp own lo W.heap.size (k : Int)) (js ++ [j]) ∧ ∀ g, w9.heap.size ≤ g → ownUp own lo W.heap.size (k : Int) g = -1 := by
  subst hkl
  have hjb := Kd.R_lt h.outer
  refine ⟨(h.below hb).more hg ho ?_ (fun g h1 h2 h3 => ?_), fun g hgl => ?_⟩
  · refine Kd.R_lower (Kd.R_mono (Kd.R_grown (Kd.R_bound he) hg (fun g hgk hgr => ?_)) (fun g hgk => ?_)) hbl
    · have h1 := hjb g hgr.symm
      have h2 := hgk.2.1
      omega
    · have h1 := hgk.2.1
      have h2 := hgk.2.2.1
      show ownUp own lo W.heap.size (js.length : Int) g = (js.length : Int)
      unfold ownUp
      rw [if_neg (by omega), if_pos h2]
  · unfold ownUp
    by_cases hgl : g < lo
    · rw [if_pos hgl]
    · have := hfree g (by omega)
      omega
  · have := hg.size
    have h5 := hfree g (by have := hb.size; omega)
    unfold ownUp
    split
    · exact h5
    · rw [if_neg (by omega)]
set_option maxRecDepth 100000 in
set_option maxHeartbeats 8000000 in
theorem l5copy_any (n : NetT) (u : (Option Addr × Nat) × (Option Addr × Nat)) (w : World) (hr : RdNet 67 w u n) (hp : n.pieces.length ≤ 1048576) (hj : n.joints.length ≤ 1048576) (he : ∀ j ∈ n.joints, j.ends.length ≤ 1048576) :
    Calls Try.prog 140 #[.agg #[.slice u.1.1 n.pieces.length u.1.2, .slice u.2.1 n.joints.length u.2.2]] w
      fun e w' => ∃ pv jv fl own, e = .returned (.agg #[pv, jv]) ∧ Kd.R kPiece 78 w' w.heap.size (fun _ => True) pv n.pieces ∧ CP w' w.heap.size jv fl own n.joints ∧ Below w.heap.size w w' := by
  have HR := Aside0.mk hr
  have HE := Aside0.mk he
  have hm0 := hr.1.1.2.1
  have hm1 := hr.2.1.2.1
  obtain ⟨⟨A0, c0⟩, ⟨A1, c1⟩⟩ := u
  obtain ⟨src, hsrc⟩ : ∃ s : List Value, s = [.slice A0 n.pieces.length c0, .slice A1 n.joints.length c1] := ⟨_, rfl⟩
  obtain ⟨W0, hW0⟩ : ∃ W0 : World, W0 = ((w.alloc (.cells #[.slice A0 n.pieces.length c0, .slice A1 n.joints.length c1] 35)).alloc (.cells #[.slice none 0 0, .slice none 0 0] 35)).alloc (.cells #[.slice none 0 0, .slice none 0 0] 35) := ⟨_, rfl⟩
  have I0 : Aside0 (CI w [.slice A0 n.pieces.length c0, .slice A1 n.joints.length c1] (.slice none 0 0) (.slice none 0 0) [] W0) := ⟨by
    rw [hW0]
    refine ⟨((Bx.new w [.slice A0 n.pieces.length c0, .slice A1 n.joints.length c1] 35).alloc _).alloc _, ?_, ?_, Kd.R_nil .., below_three _ _ _ _⟩
    · have := (Bx.new (w.alloc (.cells #[.slice A0 n.pieces.length c0, .slice A1 n.joints.length c1] 35)) [.slice none 0 0, .slice none 0 0] 35).alloc (.cells #[.slice none 0 0, .slice none 0 0] 35)
      simpa using this
    · have := Bx.new ((w.alloc (.cells #[.slice A0 n.pieces.length c0, .slice A1 n.joints.length c1] 35)).alloc (.cells #[.slice none 0 0, .slice none 0 0] 35)) [.slice none 0 0, .slice none 0 0] 35
      simpa using this⟩
  have HW0 := Aside0.mk hW0
  clear hr he hW0 hsrc
  go_enter Try.func140, Try.ntmps140
  have s0 : Aside0 (Bx W0 w.heap.size [.slice A0 n.pieces.length c0, .slice A1 n.joints.length c1]) := ⟨I0.out.src⟩
  have z0 := s0.out.c 0 _ rfl
  rw [HW0.out] at z0
  go_wp2_with fail
  rw [← HW0.out]
  clear z0 s0
  go_loopw [14] (fun v14 wr => ∃ (i : Nat) (PA : Option Addr) (pc : Nat), v14 = .int .i64 (i : Int) ∧ i ≤ n.pieces.length ∧ Aside0 (CI w [.slice A0 n.pieces.length c0, .slice A1 n.joints.length c1] (.slice PA i pc) (.slice none 0 0) (n.pieces.take i) wr)) (fun v14 _ => n.pieces.length - (intOf v14).toNat)
  case atStart => exact ⟨0, none, 0, rfl, Nat.zero_le _, ⟨by simpa using I0.out⟩⟩
  case round =>
    clear I0 HW0
    obtain ⟨i, PA, pc, rfl, hi, HI⟩ := hrel
    by_cases hlt : i < n.pieces.length
    · obtain ⟨ad0, e0, x0, x1, x2, x3⟩ := at_Piece HR.out.1.1 i hlt
      subst e0
      have hb0 := HI.out.b0
      replace x0 := pw_cell_below hb0 x0
      replace x1 := pw_cell_below hb0 x1
      replace x2 := pw_cell_below hb0 x2
      replace x3 := pw_cell_below hb0 x3
      have htk := take_getD n.pieces i hlt
      obtain ⟨p, hpe⟩ : ∃ p, p = n.pieces.getD i default := ⟨_, rfl⟩
      rw [← hpe] at x0 x1 x2 x3 htk
      have HTK := Aside0.mk htk
      have hlen : (n.pieces.take i).length = i := by rw [List.length_take]; omega
      have HLN := Aside0.mk hlen
      have HL9 : Aside0 ((n.pieces.take i ++ [p]).length = i + 1) := ⟨by rw [List.length_append, hlen]; rfl⟩
      have I5 := Aside0.mk (HI.out.alloc (.cells #[.string p.name, .int .i64 p.len, .int .i64 p.speed, .int .i64 p.brake] 78))
      have g5 := Bx.new wr [.string p.name, .int .i64 p.len, .int .i64 p.speed, .int .i64 p.brake] 78
      have g50 := g5.c 0 _ rfl; have g51 := g5.c 1 _ rfl; have g52 := g5.c 2 _ rfl; have g53 := g5.c 3 _ rfl
      have n0 := I5.out.net.c 0 _ rfl
      have hsz5 := I5.out.sz
      clear htk hlen hpe hb0 g5
      go_wp2_with ((with_reducible refine gate_callG (b := .append) (xs := #[.tmp 19, .tmp 21]) rfl ?_); at_builtin; refine Kd.R_append kPiece (w0 := wr.alloc (.cells #[.string p.name, .int .i64 p.len, .int .i64 p.speed, .int .i64 p.brake] 78)) (w.heap.size + 3) rfl (.tmp 19) (.tmp 21) 32 78 (.agg #[.string ⟨#[]⟩, .int .i64 0, .int .i64 0, .int .i64 0]) 40 rfl Try.underlying32 info78 rfl (by decide) (by omega) (.slice PA i pc) (n.pieces.take i) p [.string p.name, .int .i64 p.len, .int .i64 p.speed, .int .i64 p.brake] (fun _ => True) (fun _ => False) rfl (by first | (go_simp; done) | (go_simp; rfl)) (kPiece_mkM _ _ _ _) (fun _ hk => hk.elim) (fun _ _ => trivial) I5.out.pr (Below.refl _ _) hsz5 (by rw [HLN.out]; omega) ?_; intro v1 w9 hR9 hB9 hG9 hat9; obtain ⟨pA1, pc1, hv9⟩ := Kd.R_slice hR9; rw [HL9.out] at hv9; subst hv9; have n9 := I5.out.net.grownB hG9 (fun he => by have := Kd.R_base I5.out.pr _ he.symm; omega); clear n0; have n0 := n9.c 0 _ rfl; have nf0 := n9.f 0; have nl9 := n9.lt; clear n9; have I9 := Aside0.mk (I5.out.setP hG9 hR9 (below_lo I5.out.b0 hB9 (by omega))); clear hR9 hB9 hG9 hat9)
      go_roundw
      case rel => exact ⟨i + 1, pA1, pc1, by go_num, by omega, ⟨by rw [HTK.out]; exact I9.out⟩⟩
      case measure => simp [intOf]; omega
    · have hin : i = n.pieces.length := by omega
      subst hin
      rw [List.take_length] at HI
      have s1 := HI.out.src.c 1 _ rfl
      have hbw := HI.out.b0.size
      go_wp2_with fail
      have P0 := Aside0.mk (CP.start wr (w.heap.size + 3))
      clear s1
      go_loopw [28] (fun v28 wr => ∃ (k : Nat) (JA : Option Addr) (jc : Nat) (fl : List FlatT) (own : Nat → Int), v28 = .int .i64 (k : Int) ∧ k ≤ n.joints.length ∧ Aside0 (CI w [.slice A0 n.pieces.length c0, .slice A1 n.joints.length c1] (.slice PA n.pieces.length pc) (.slice JA k jc) n.pieces wr) ∧ Aside0 (CP wr (w.heap.size + 3) (.slice JA k jc) fl own (n.joints.take k)) ∧ Aside0 (∀ g, wr.heap.size ≤ g → own g = -1)) (fun v28 _ => n.joints.length - (intOf v28).toNat)
      case atStart => exact ⟨0, none, 0, [], fun _ => -1, rfl, Nat.zero_le _, HI, P0, ⟨fun _ _ => rfl⟩⟩
      case round =>
        clear HI P0 hbw hlt hi
        obtain ⟨k, JA, jc, fl, own, rfl, hk, HI, HP, HW⟩ := hrel
        obtain ⟨WO, rfl⟩ : ∃ WO : World, WO = wr := ⟨_, rfl⟩
        by_cases hlt : k < n.joints.length
        · obtain ⟨ad0, A2, c2, e0, x0, x1, x2, hle, hC⟩ := at_Joint HR.out.2.1 k hlt
          subst e0
          have hb0 := HI.out.b0
          replace x0 := pw_cell_below hb0 x0
          replace x1 := pw_cell_below hb0 x1
          replace x2 := pw_cell_below hb0 x2
          have htk := take_getD n.joints k hlt
          have hel := HE.out _ (getD_mem n.joints k hlt)
          obtain ⟨j, hje⟩ : ∃ j, j = n.joints.getD k default := ⟨_, rfl⟩
          rw [← hje] at x0 x1 x2 htk hC hel
          have HTK := Aside0.mk htk
          have HCE := Aside0.mk hC
          have hCm := hC.2.1
          have hlen : (n.joints.take k).length = k := by rw [List.length_take]; omega
          have HLN := Aside0.mk hlen
          obtain ⟨gj, hgj⟩ : ∃ g, g = WO.heap.size + 1 := ⟨_, rfl⟩
          have HGJ := Aside0.mk hgj
          have hszO := HI.out.sz
          have HSO := Aside0.mk hszO
          have J7 : Aside0 (Bx (WO.alloc (.cells #[.int .i64 j.kind, .string j.name, .slice A2 j.ends.length c2] 139)) WO.heap.size [.int .i64 j.kind, .string j.name, .slice A2 j.ends.length c2]) := ⟨Bx.new WO _ 139⟩
          have J8 : Aside0 (Bx ((WO.alloc (.cells #[.int .i64 j.kind, .string j.name, .slice A2 j.ends.length c2] 139)).alloc (.cells #[.int .i64 j.kind, .string j.name, .slice none 0 0] 139)) gj [.int .i64 j.kind, .string j.name, .slice none 0 0]) := ⟨Bx.new' _ _ _ (by rw [hgj]; simp)⟩
          have B8 : Aside0 (Below WO.heap.size WO ((WO.alloc (.cells #[.int .i64 j.kind, .string j.name, .slice A2 j.ends.length c2] 139)).alloc (.cells #[.int .i64 j.kind, .string j.name, .slice none 0 0] 139))) := ⟨below_two _ _ _⟩
          have z0 := J7.out.c 0 _ rfl; have z1 := J7.out.c 1 _ rfl
          have z2 := (J7.out.alloc (.cells #[.int .i64 j.kind, .string j.name, .slice none 0 0] 139)).c 2 _ rfl
          clear htk hlen hje hb0 hC hgj
          go_wp2_with fail
          rw [← HGJ.out]
          clear z0 z1 z2 x0 x1 x2
          go_loopw [40] (fun v40 wr => ∃ (q : Nat) (EA : Option Addr) (ec : Nat), v40 = .int .i64 (q : Int) ∧ q ≤ j.ends.length ∧ Aside0 (Bx wr gj [.int .i64 j.kind, .string j.name, .slice EA q ec]) ∧ Aside0 (Kd.R kEnd 67 wr (gj + 1) (fun _ => True) (.slice EA q ec) (j.ends.take q)) ∧ Aside0 (Below WO.heap.size WO wr)) (fun v40 _ => j.ends.length - (intOf v40).toNat)
          case atStart => exact ⟨0, none, 0, rfl, Nat.zero_le _, J8, ⟨by simp; exact Kd.R_nil ..⟩, B8⟩
          case round =>
            clear J7 J8 B8
            obtain ⟨q, EA, ec, rfl, hq, J6, R6, B6⟩ := hrel
            by_cases hlq : q < j.ends.length
            · have hCw := Kd.C_below HCE.out (below_more HI.out.b0 B6.out)
              obtain ⟨ad1, e1, y0, y1⟩ := at_End hCw q hlq
              subst e1
              have htk := take_getD j.ends q hlq
              obtain ⟨⟨ep, es⟩, hee⟩ : ∃ e, e = j.ends.getD q default := ⟨_, rfl⟩
              rw [← hee] at y0 y1 htk
              have HTQ := Aside0.mk htk
              have hlen : (j.ends.take q).length = q := by rw [List.length_take]; omega
              have HLQ := Aside0.mk hlen
              have HL9 : Aside0 ((j.ends.take q ++ [(⟨ep, es⟩ : EndT)]).length = q + 1) := ⟨by rw [List.length_append, hlen]; rfl⟩
              have J7 := Aside0.mk (J6.out.alloc (.cells #[.int .i64 ep, .int .i64 es] 67))
              have R7 := Aside0.mk (Kd.R_alloc R6.out (.cells #[.int .i64 ep, .int .i64 es] 67))
              have g5 := Bx.new wr [.int .i64 ep, .int .i64 es] 67
              have g50 := g5.c 0 _ rfl; have g51 := g5.c 1 _ rfl
              have j2 := J7.out.c 2 _ rfl
              have hszj := J7.out.lt
              clear htk hlen hee hCw g5
              go_wp2_with ((with_reducible refine gate_callG (b := .append) (xs := #[.tmp 45, .tmp 47]) rfl ?_); at_builtin; refine Kd.R_append kEnd (w0 := wr.alloc (.cells #[.int .i64 ep, .int .i64 es] 67)) (gj + 1) rfl (.tmp 45) (.tmp 47) 72 67 (.agg #[.int .i64 0, .int .i64 0]) 16 rfl Try.underlying72 info67 rfl (by decide) (by omega) (.slice EA q ec) (j.ends.take q) ⟨ep, es⟩ [.int .i64 ep, .int .i64 es] (fun _ => True) (fun _ => False) rfl (by first | (go_simp; done) | (go_simp; rfl)) (kEnd_mkM _ _ _ ⟨ep, es⟩) (fun _ hk => hk.elim) (fun _ _ => trivial) R7.out (Below.refl _ _) hszj (by rw [HLQ.out]; omega) ?_; intro v1 w9 hR9 hB9 hG9 hat9; obtain ⟨pA1, pc1, hv9⟩ := Kd.R_slice hR9; rw [HL9.out] at hv9; subst hv9; have n9 := J7.out.grownB hG9 (fun he => by have := Kd.R_base R7.out _ he.symm; omega); clear j2; have j2 := n9.c 2 _ rfl; have jf2 := n9.f 2; have jl9 := n9.lt; have J9 := Aside0.mk n9; have hR9' := Aside0.mk hR9; have hB9' := Aside0.mk hB9; clear hR9 hB9 hG9 hat9 n9)
              go_roundw
              case rel =>
                refine ⟨q + 1, pA1, pc1, by go_num, by omega, ⟨J9.out.set (i := 2) (by simp) _⟩, ⟨?_⟩, ⟨?_⟩⟩
                · rw [HTQ.out]; exact R_apart hR9'.out (by show gj < gj + 1; omega) _
                · exact below_set (below_lo (below_alloc B6.out _) hB9'.out (by have := HGJ.out; omega)) (by have := HGJ.out; omega)
              case measure => simp [intOf]; omega
            · have hqe : q = j.ends.length := by omega
              subst hqe
              rw [List.take_length] at R6
              have I6 := Aside0.mk (HI.out.below B6.out)
              have HOut := Aside0.mk (copy_outer (lo := gj + 1) (k := (k : Int)) HP.out B6.out (by have := HGJ.out; omega))
              have n1 := I6.out.net.c 1 _ rfl
              have j0 := J6.out.c 0 _ rfl; have j1 := J6.out.c 1 _ rfl; have j2 := J6.out.c 2 _ rfl
              have hsz6 := I6.out.sz
              have hfl : fl.length = k := by rw [HP.out.len, HLN.out]
              have HL9 : Aside0 ((fl ++ [((j.kind, j.name, (EA, j.ends.length, ec)) : FlatT)]).length = k + 1) := ⟨by rw [List.length_append, hfl]; rfl⟩
              have HFL := Aside0.mk hfl
              clear hfl
              go_wp2_with ((with_reducible refine gate_callG (b := .append) (xs := #[.tmp 52, .tmp 54]) rfl ?_); at_builtin; refine Kd.R_append kFlat (w0 := wr) (w.heap.size + 3) rfl (.tmp 52) (.tmp 54) 33 139 (.agg #[.int .i64 0, .string ⟨#[]⟩, .slice none 0 0]) 48 rfl Try.underlying33 info139 rfl (by decide) (by omega) (.slice JA k jc) fl (j.kind, j.name, (EA, j.ends.length, ec)) [.int .i64 j.kind, .string j.name, .slice EA j.ends.length ec] (fun g => ownUp own (gj + 1) wr.heap.size (k : Int) g = -1) (fun _ => False) rfl (by first | (go_simp; done) | (go_simp; rfl)) (kFlat_mkM _ _ _ (j.kind, j.name, (EA, j.ends.length, ec))) (fun _ hk => hk.elim) (fun g hg => by have := J6.out.lt; show ownUp own (gj + 1) wr.heap.size (k : Int) g = -1; unfold ownUp; rw [if_neg (by omega), if_neg (by omega)]) HOut.out (Below.refl _ _) hsz6 (by rw [HFL.out]; omega) ?_; intro v1 w9 hR9 hB9 hG9 hat9; obtain ⟨pA1, pc1, hv9⟩ := Kd.R_slice hR9; rw [HL9.out] at hv9; subst hv9; have n9 := I6.out.net.grownB hG9 (fun he => by have := Kd.R_base HOut.out _ he.symm; omega); clear n1; have n1 := n9.c 1 _ rfl; have nf1 := n9.f 1; have nl9 := n9.lt; have hR9' := Aside0.mk hR9; have hB9' := Aside0.mk hB9; have hG9' := Aside0.mk hG9; clear hR9 hB9 hG9 hat9 n9)
              go_roundw
              case rel =>
                have hgj2 := HGJ.out
                have hso := HSO.out
                obtain ⟨hP9, hW9⟩ := copy_more HLN.out HP.out B6.out (lo := gj + 1) (by omega) (by omega) HW.out R6.out hG9'.out hR9'.out
                refine ⟨k + 1, pA1, pc1, fl ++ [((j.kind, j.name, (EA, j.ends.length, ec)) : FlatT)], ownUp own (gj + 1) wr.heap.size (k : Int), by go_num, by omega, ⟨?_⟩, ⟨?_⟩, ⟨fun g hg => hW9 g (by rw [setCell_sz] at hg; exact hg)⟩⟩
                · exact (I6.out.grow hG9'.out (fun g hg => Kd.R_base HOut.out g hg) (Kd.R_over I6.out.pr HOut.out kPiece_139 hG9'.out) (below_lo I6.out.b0 hB9'.out (by omega))).setJ
                · rw [HTK.out]
                  exact hP9.apart (by show w.heap.size + 2 < _; omega) _
              case measure => simp [intOf]; omega
        · have hkn : k = n.joints.length := by omega
          subst hkn
          rw [List.take_length] at HP
          have n0 := HI.out.net.c 0 _ rfl; have n1 := HI.out.net.c 1 _ rfl
          have z0 := HI.out.res.c 0 _ rfl; have z1 := HI.out.res.c 1 _ rfl; have zf0 := HI.out.res.f 0; have zf1 := HI.out.res.f 1; have zlt := HI.out.res.lt
          go_wp2_with fail
          refine bodyPost_ret (v := .agg #[.slice PA n.pieces.length pc, .slice JA n.joints.length jc]) (by simp [results, Try.results140, go_sem, z0, z1, zf0, zf1, zlt]) rfl ⟨.slice PA n.pieces.length pc, .slice JA n.joints.length jc, fl, own, rfl, ?_, ?_, ?_⟩
          · exact Kd.R_lower (R_apart (R_apart HI.out.pr (by show w.heap.size + 1 < _; omega) _) (by show w.heap.size + 1 < _; omega) _) (by omega)
          · exact ((HP.out.apart (by show w.heap.size + 1 < _; omega) _).apart (by show w.heap.size + 1 < _; omega) _).lower (by omega)
          · exact Below.setCell (Below.setCell HI.out.b0 (by show w.heap.size ≤ w.heap.size + 1; omega) _) (by show w.heap.size ≤ w.heap.size + 1; omega) _
end Go.Proofs.Ytckcffjnffcjcaa
