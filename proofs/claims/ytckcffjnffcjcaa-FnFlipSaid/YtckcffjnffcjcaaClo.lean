/- Contracts of the closures of the program's drive, Drive and Ahead. No conditions. -/
import Derived.Test.YtckcffjnffcjcaaDr6
set_option linter.unusedVariables false
set_option linter.unusedSimpArgs false
namespace Go.Proofs.Ytckcffjnffcjcaa
open Go.RowKit Go.Proofs.YtckcffjnffcjcaaW.PrintWords
theorem Bx.keep {W w1 : World} {b g : Nat} {vs : List Value} (h : Bx W b vs) (hk : KeepBut W w1 g none) (hne : b ≠ g) : Bx w1 b vs := by
  have e : w1.heap[b]? = W.heap[b]? := hk.2 b h.lt hne (by simp)
  refine ⟨Nat.lt_of_lt_of_le h.lt hk.1, fun i v hv => ?_, fun i => ?_⟩
  · have := h.c i v hv
    unfold World.cell? at this ⊢
    simp only at this ⊢
    rw [e]; exact this
  · have := h.f i
    unfold World.frozen? at this ⊢
    simp only at this ⊢
    rw [e]; exact this
theorem Bx.grown {W w1 : World} {b : Nat} {row : Option Nat} {vs : List Value} (h : Bx W b vs) (hk : W.grownBy w1 row) (hne : some b ≠ row) : Bx w1 b vs := by
  have e : w1.heap[b]? = W.heap[b]? := hk.block b h.lt hne
  refine ⟨Nat.lt_of_lt_of_le h.lt hk.size, fun i v hv => ?_, fun i => ?_⟩
  · have := h.c i v hv
    unfold World.cell? at this ⊢
    simp only at this ⊢
    rw [e]; exact this
  · have := h.f i
    unfold World.frozen? at this ⊢
    simp only at this ⊢
    rw [e]; exact this
theorem below_part {lo : Nat} {w W : World} (h : Below w.heap.size w W) (hlo : lo ≤ w.heap.size) : Below lo w W := below_lower (Below.refl lo w) h hlo
set_option maxRecDepth 100000 in
set_option maxHeartbeats 4000000 in
theorem stop_any (c i : Int) (b16 bd : Nat) (x0 x2 far p a s : Int) (w : World) (h16 : Bx w b16 [.int .i64 i]) (hd : Bx w bd [.int .i64 x0, .int .i64 far, .int .i64 x2, .int .i64 p, .int .i64 a, .int .i64 s]) (hne : b16 ≠ bd) :
    Calls Try.prog 170 #[.int .i64 c, .pointer (some ⟨b16, 0, none⟩), .pointer (some ⟨bd, 0, none⟩)] w
      fun e w' => e = .returned (.agg #[.int .i64 c, .int .i64 far, .int .i64 i, .int .i64 p, .int .i64 a, .int .i64 s]) ∧ KeepBut w w' bd none ∧ ∀ lo, lo ≤ bd → lo ≤ w.heap.size → Below lo w w' := by
  obtain ⟨W0, hW0⟩ : ∃ W0, W0 = w.alloc (.cells #[.int .i64 0, .int .i64 0, .int .i64 0, .int .i64 0, .int .i64 0, .int .i64 0] 44) := ⟨_, rfl⟩
  have hn := Bx.new w [.int .i64 0, .int .i64 0, .int .i64 0, .int .i64 0, .int .i64 0, .int .i64 0] 44
  have h16' := h16.alloc (.cells #[.int .i64 0, .int .i64 0, .int .i64 0, .int .i64 0, .int .i64 0, .int .i64 0] 44)
  have hd' := hd.alloc (.cells #[.int .i64 0, .int .i64 0, .int .i64 0, .int .i64 0, .int .i64 0, .int .i64 0] 44)
  have fb := below_alloc (Below.refl w.heap.size w) (.cells #[.int .i64 0, .int .i64 0, .int .i64 0, .int .i64 0, .int .i64 0, .int .i64 0] 44)
  have hbl := hd.lt
  have hdw : bd ≠ w.heap.size := by omega
  have hwd : w.heap.size ≠ bd := by omega
  have z0 := hn.c 0 _ rfl
  rw [show [Value.int .i64 0, .int .i64 0, .int .i64 0, .int .i64 0, .int .i64 0, .int .i64 0].toArray = #[Value.int .i64 0, .int .i64 0, .int .i64 0, .int .i64 0, .int .i64 0, .int .i64 0] from rfl, ← hW0] at hn
  clear z0
  rw [← hW0] at h16' hd' fb
  have d0 := hd'.c 0 _ rfl; have d1 := hd'.c 1 _ rfl; have d2 := hd'.c 2 _ rfl; have d3 := hd'.c 3 _ rfl; have d4 := hd'.c 4 _ rfl; have d5 := hd'.c 5 _ rfl; have df0 := hd'.f 0; have df1 := hd'.f 1; have df2 := hd'.f 2; have df3 := hd'.f 3; have df4 := hd'.f 4; have df5 := hd'.f 5; have z0 := hn.c 0 _ rfl; have z1 := hn.c 1 _ rfl; have z2 := hn.c 2 _ rfl; have z3 := hn.c 3 _ rfl; have z4 := hn.c 4 _ rfl; have z5 := hn.c 5 _ rfl; have zf0 := hn.f 0; have zf1 := hn.f 1; have zf2 := hn.f 2; have zf3 := hn.f 3; have zf4 := hn.f 4; have zf5 := hn.f 5; have i0 := h16'.c 0 _ rfl; have zlt := hn.lt; have dlt := hd'.lt
  have FB := Aside0.mk fb
  have HDS := Aside0.mk hd'
  have HNS := Aside0.mk hn
  have HW := Aside0.mk hW0
  clear hn h16 h16' hd hd' fb hW0
  go_enter Try.func170, Try.ntmps170
  go_wp2
  try rw [← HW.out]
  go_region
  all_goals
    try go_wp2
    refine bodyPost_ret (v := .agg #[.int .i64 c, .int .i64 far, .int .i64 i, .int .i64 p, .int .i64 a, .int .i64 s]) (by simp [results, Try.results170, go_sem, d0, d1, d2, d3, d4, d5, df0, df1, df2, df3, df4, df5, z0, z1, z2, z3, z4, z5, zf0, zf1, zf2, zf3, zf4, zf5, zlt, dlt, hdw, hwd]) rfl ⟨rfl, ?_, ?_⟩
    · repeat (first | (with_reducible exact KeepBut.of_below FB.out _ _) | (with_reducible refine KeepBut.set_ ?_ _ _) | (with_reducible refine keep_drew ?_) | (with_reducible refine keep_far ?_ (Nat.le_refl _) _))
    · intro lo h1 h2
      repeat (first | (with_reducible exact below_part FB.out h2) | (with_reducible refine Below.setCell ?_ h2 _) | (with_reducible refine Below.setCell ?_ h1 _) | (refine Below.drew ?_))
set_option maxRecDepth 100000 in
theorem sinkNone_any (x : PartT) (w : World) :
    Calls Try.prog 113 #[.agg #[.int .i64 x.piece, .int .i64 x.frm, .int .i64 x.upto]] w fun e w' => e = .returned (.tuple #[]) ∧ Below w.heap.size w w' := by
  go_enter Try.func113, Try.ntmps113
  go_wp2
  go_end0
  exact ⟨rfl, below_alloc (Below.refl _ _) _⟩
set_option maxRecDepth 100000 in
set_option maxHeartbeats 4000000 in
theorem sinkRow_any (x : PartT) (bs base : Nat) (PA : Option Addr) (pc : Nat) (ps : List PartT) (w : World) (hs : Bx w bs [.slice PA ps.length pc]) (hr : Kd.R kPart 89 w base (fun _ => True) (.slice PA ps.length pc) ps) (hbs : bs < base) (hbase : base ≤ w.heap.size) (hlen : ps.length ≤ 1000000) :
    Calls Try.prog 145 #[.agg #[.int .i64 x.piece, .int .i64 x.frm, .int .i64 x.upto], .pointer (some ⟨bs, 0, none⟩)] w
      fun e w' => e = .returned (.tuple #[]) ∧ ∃ PA1 pc1, Bx w' bs [.slice PA1 (ps.length + 1) pc1] ∧ Kd.R kPart 89 w' base (fun _ => True) (.slice PA1 (ps.length + 1) pc1) (ps ++ [x]) ∧ (∀ b vs, Bx w b vs → b ≠ bs → some b ≠ (Value.slice PA ps.length pc).ownBlock → Bx w' b vs) ∧ ∀ lo, lo ≤ bs → Below lo w w' := by
  obtain ⟨W0, hW0⟩ : ∃ W0, W0 = w.alloc (.cells #[.int .i64 x.piece, .int .i64 x.frm, .int .i64 x.upto] 89) := ⟨_, rfl⟩
  have HR := Aside0.mk (Kd.R_alloc hr (.cells #[.int .i64 x.piece, .int .i64 x.frm, .int .i64 x.upto] 89))
  have hs' := hs.alloc (.cells #[.int .i64 x.piece, .int .i64 x.frm, .int .i64 x.upto] 89)
  rw [← hW0] at HR hs'
  have hx : Bx W0 w.heap.size [.int .i64 x.piece, .int .i64 x.frm, .int .i64 x.upto] := by rw [hW0]; exact Bx.new w _ 89
  have FB := Aside0.mk (show Below w.heap.size w W0 by rw [hW0]; exact below_alloc (Below.refl _ _) _)
  have s0 := hs'.c 0 _ rfl; have sf := hs'.f 0; have sl := hs'.lt
  have x0 := hx.c 0 _ rfl; have x1 := hx.c 1 _ rfl; have x2 := hx.c 2 _ rfl
  have HS := Aside0.mk hs'
  have HLT := Aside0.mk hs.lt
  have HLEN := Aside0.mk hlen
  have HBS := Aside0.mk hbs
  have HBA := Aside0.mk hbase
  have hlen' : (ps.length + 1) * 24 ≤ 140737488355328 := by omega
  clear hs' hx hr hlen hbs hbase
  clear hs
  subst hW0
  go_enter Try.func145, Try.ntmps145
  go_wp2_with ((with_reducible refine gate_call (b := .append) (xs := #[.tmp 3, .tmp 5]) rfl ?_); at_builtin; refine Kd.R_append kPart (w0 := w.alloc (.cells #[.int .i64 x.piece, .int .i64 x.frm, .int .i64 x.upto] 89)) base rfl (.tmp 3) (.tmp 5) 26 89 (.agg #[.int .i64 0, .int .i64 0, .int .i64 0]) 24 rfl Try.underlying26 info89 rfl (by decide) (by omega) (.slice PA ps.length pc) ps x [.int .i64 x.piece, .int .i64 x.frm, .int .i64 x.upto] (fun _ => True) (fun _ => False) rfl (by first | (go_simp; done) | (go_simp; rfl)) (kPart_mkM _ _ _ _) (fun _ hk => hk.elim) (fun _ _ => trivial) HR.out (Below.refl _ _) (by have := HBA.out; have := FB.out.size; omega) hlen' ?_; intro v1 w5 hP5 hB5 hg5 hat5; clear hat5; obtain ⟨PA1, pc1, rfl⟩ := Kd.R_slice hP5; have P5 := Aside0.mk hP5; have G5 := Aside0.mk hg5; have B5 := Aside0.mk hB5; have S5 := Aside0.mk (HS.out.under hB5 HBS.out); clear hP5 hB5 hg5; clear s0 sf sl; have s0 := S5.out.c 0 _ rfl; have sf := S5.out.f 0; have sl := S5.out.lt)
  go_end0
  rw [show (ps ++ [x]).length = ps.length + 1 by simp] at P5
  refine ⟨rfl, PA1, pc1, S5.out.set (i := 0) (by simp) _, R_apart P5.out HBS.out _, ?_, ?_⟩
  · intro b vs hb hne hrow
    exact ((hb.alloc _).grown G5.out hrow).far hne _
  · intro lo hlo
    exact Below.setCell (below_lower (below_part FB.out (by have := HLT.out; omega)) B5.out (by have := HBS.out; omega)) hlo _
end Go.Proofs.Ytckcffjnffcjcaa
