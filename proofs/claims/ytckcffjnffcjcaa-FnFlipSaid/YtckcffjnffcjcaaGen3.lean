/- What holds while a net is drawn: the state of the rows, step by step. No conditions. -/
import Derived.Test.YtckcffjnffcjcaaGen2
import Derived.Test.YtckcffjnffcjcaaTos
set_option linter.unusedVariables false
set_option linter.unusedSimpArgs false
namespace Go.Proofs.Ytckcffjnffcjcaa
open Go.RowKit Go.Proofs.YtckcffjnffcjcaaW.PrintWords
theorem C_same {α : Type} {d : Kd α} {w W' : World} {A : Option Addr} {n : Nat} {xs : List α} (hd : ∀ {W W' : World} {x : α} {cs : List Value}, d.K W x cs → d.K W' x cs) (h : Kd.C d w A n xs) (hm : ∀ ad, A = some ad → 0 < n → W'.heap[ad.block]? = w.heap[ad.block]?) : Kd.C d W' A n xs := by
  refine ⟨h.1, h.2.1, fun hn => ?_⟩
  obtain ⟨ad, he, hc⟩ := h.2.2 hn
  refine ⟨ad, he, fun j p hj => ?_⟩
  obtain ⟨cs, h1, h2, h3⟩ := hc j p hj
  refine ⟨cs, h1, hd h2, fun i u hu => ?_⟩
  have := h3 i u hu
  have e := hm ad he hn
  unfold World.cell? at this ⊢
  simp only [add_block] at this ⊢
  rw [e]; exact this
theorem Bx.grownB {W w1 : World} {b : Nat} {row : Option Nat} {vs : List Value} (h : Bx W b vs) (hk : W.grownBy w1 row) (hne : some b ≠ row) : Bx w1 b vs := by
  have e : w1.heap[b]? = W.heap[b]? := hk.block b h.lt hne
  refine ⟨Nat.lt_of_lt_of_le h.lt hk.size, fun i v hv => ?_, fun i => ?_⟩
  · have := h.c i v hv
    unfold World.cell? at this ⊢
    simp only at this ⊢
    rw [e]; exact this
  · have := h.f i
    unfold World.frozen? at this ⊢
    simp only at this ⊢
    rw [e]; exact this
theorem R_keptL {α : Type} {d : Kd α} {e base bc : Nat} {w w1 : World} {v : Value} {xs : List α} (h : d.R e w base (fun _ => True) v xs) (hk : KeepBut w w1 bc none) (hlt : bc < base) : d.R e w1 base (fun _ => True) v xs :=
  Kd.R_mono (Kd.R_keep (Kd.R_bound h) hk (fun k hk => by have := hk.2.1; omega)) (fun _ _ => trivial)
theorem below_raise {lo : Nat} {w W W' : World} (h : Below w.heap.size w W) (hb : Below W.heap.size W W') : Below w.heap.size w W' := below_more h hb
/-- The state of a net that is drawn: the reader, the answer's cell, the net's two rows. -/
structure NI (w0 w : World) (code : List Int) (A : Option Addr) (c bc base k : Nat) (pv jv : Value) (ps : List PieceT) (js : List JointT) (W : World) : Prop where
  cur : Bx W bc (curV code A c k)
  res : Bx W w.heap.size [.slice none 0 0, .slice none 0 0]
  net : Bx W (w.heap.size + 1) [pv, jv]
  pr : Kd.R kPiece 78 W (w.heap.size + 2) (fun _ => True) pv ps
  jr : Kd.R (kJoint 67) 139 W base (fun _ => True) jv js
  b0 : Below w0.heap.size w0 W
  kp : KeepBut w W bc none
  sz : base ≤ W.heap.size
  bs : w.heap.size + 2 ≤ base
  bl : bc < w.heap.size
  b1 : w0.heap.size ≤ bc
section
variable {w0 w : World} {code : List Int} {A : Option Addr} {c bc base k : Nat} {pv jv : Value} {ps : List PieceT} {js : List JointT} {W W' : World} {u : Value}
theorem setCell_sz (W : World) (p : Addr) (u : Value) : (W.setCell p u).heap.size = W.heap.size := by simp [World.setCell]
theorem below_of (h : NI w0 w code A c bc base k pv jv ps js W) (hb : Below W.heap.size W W') : Below w0.heap.size w0 W' :=
  h.b0.trans ⟨hb.os, hb.tape, hb.output, hb.size, fun i hi => hb.block i (Nat.lt_of_lt_of_le hi (by have := h.b0.size; omega))⟩
theorem NI.below (h : NI w0 w code A c bc base k pv jv ps js W) (hb : Below W.heap.size W W') : NI w0 w code A c bc base k pv jv ps js W' :=
  ⟨h.cur.below hb, h.res.below hb, h.net.below hb, Kd.R_below h.pr hb, Kd.R_below h.jr hb, below_of h hb, h.kp.trans (KeepBut.of_below hb _ _) (.inl rfl), Nat.le_trans h.sz hb.size, h.bs, h.bl, h.b1⟩
theorem NI.drew (h : NI w0 w code A c bc base k pv jv ps js W) : NI w0 w code A c bc base k pv jv ps js W.drew := h.below (below_drew (Below.refl _ _))
theorem NI.alloc (h : NI w0 w code A c bc base k pv jv ps js W) (o : Obj) : NI w0 w code A c bc base k pv jv ps js (W.alloc o) := h.below (below_alloc (Below.refl _ _) o)
theorem NI.pick {k' : Nat} (h : NI w0 w code A c bc base k pv jv ps js W) (hx : Bx W' bc (curV code A c k')) (hk : KeepBut W W' bc none) (hb : Below w0.heap.size w0 W') : NI w0 w code A c bc base k' pv jv ps js W' :=
  ⟨hx, h.res.kept hk (by have := h.bl; omega), h.net.kept hk (by have := h.bl; omega), R_keptL h.pr hk (by have := h.bl; omega), R_keptL h.jr hk (by have := h.bl; have := h.bs; omega), hb, h.kp.trans hk (.inl rfl), Nat.le_trans h.sz hk.1, h.bs, h.bl, h.b1⟩
/-- A row that is none of the net's has grown. -/
theorem NI.grow {row : Option Nat} (h : NI w0 w code A c bc base k pv jv ps js W) (hg : W.grownBy W' row) (hne : ∀ g, row = some g → w.heap.size + 2 ≤ g) (hp : Kd.R kPiece 78 W' (w.heap.size + 2) (fun _ => True) pv ps) (hj : Kd.R (kJoint 67) 139 W' base (fun _ => True) jv js) (hb : Below w0.heap.size w0 W') : NI w0 w code A c bc base k pv jv ps js W' := by
  have hbl := h.bl
  have key : ∀ b, b < w.heap.size + 2 → some b ≠ row := fun b hb he => by
    have := hne b he.symm
    omega
  exact ⟨h.cur.grownB hg (key _ (by omega)), h.res.grownB hg (key _ (by omega)), h.net.grownB hg (key _ (by omega)), hp, hj, hb, ⟨Nat.le_trans h.kp.1 hg.size, fun i hi h1 h2 => (hg.block i (Nat.lt_of_lt_of_le hi h.kp.1) (key _ (by omega))).trans (h.kp.2 i hi h1 h2)⟩, Nat.le_trans h.sz hg.size, h.bs, h.bl, h.b1⟩
/-- A store into a block of the call's own that is none of the net's. -/
theorem NI.far (h : NI w0 w code A c bc base k pv jv ps js W) {g i : Nat} (hg : w.heap.size + 2 ≤ g) (hp : Kd.R kPiece 78 (W.setCell ⟨g, i, none⟩ u) (w.heap.size + 2) (fun _ => True) pv ps) (hj : Kd.R (kJoint 67) 139 (W.setCell ⟨g, i, none⟩ u) base (fun _ => True) jv js) : NI w0 w code A c bc base k pv jv ps js (W.setCell ⟨g, i, none⟩ u) := by
  have hbl := h.bl
  have hb1 := h.b1
  exact ⟨h.cur.far (by omega) _, h.res.far (by omega) _, h.net.far (by omega) _, hp, hj, Below.setCell h.b0 (by show w0.heap.size ≤ g; omega) _, keep_far h.kp (by show w.heap.size ≤ g; omega) _, by rw [setCell_sz]; exact h.sz, h.bs, h.bl, h.b1⟩
/-- A piece more: the grown row, then the net's cell. -/
theorem NI.setP {pv1 : Value} {ps1 : List PieceT} (h : NI w0 w code A c bc base k pv jv ps js W) (hg : W.grownBy W' pv.ownBlock) (hp : Kd.R kPiece 78 W' (w.heap.size + 2) (fun _ => True) pv1 ps1) (hj : Kd.R (kJoint 67) 139 W' base (fun _ => True) jv js) (hb : Below w0.heap.size w0 W') : NI w0 w code A c bc base k pv1 jv ps1 js (W'.setCell ⟨w.heap.size + 1, 0, none⟩ pv1) := by
  have hbl := h.bl
  have hb1 := h.b1
  have hbs := h.bs
  have key : ∀ b, b < w.heap.size + 2 → some b ≠ pv.ownBlock := fun b hb he => by
    have := Kd.R_base h.pr b he.symm
    omega
  have kp : KeepBut w W' bc none := ⟨Nat.le_trans h.kp.1 hg.size, fun i hi h1 h2 => (hg.block i (Nat.lt_of_lt_of_le hi h.kp.1) (key _ (by omega))).trans (h.kp.2 i hi h1 h2)⟩
  refine ⟨(h.cur.grownB hg (key _ (by omega))).far (by omega) _, (h.res.grownB hg (key _ (by omega))).far (by omega) _, ?_, R_apart hp (by show w.heap.size + 1 < _; omega) _, R_apart hj (by show w.heap.size + 1 < _; omega) _, Below.setCell hb (by show w0.heap.size ≤ w.heap.size + 1; omega) _, keep_far kp (by show w.heap.size ≤ w.heap.size + 1; omega) _, ?_, h.bs, h.bl, h.b1⟩
  · exact (h.net.grownB hg (key _ (by omega))).set (i := 0) (by simp) _
  · rw [setCell_sz]; exact Nat.le_trans h.sz hg.size
/-- A joint more. -/
theorem NI.setJ {jv1 : Value} {js1 : List JointT} (h : NI w0 w code A c bc base k pv jv ps js W) (hg : W.grownBy W' jv.ownBlock) (hp : Kd.R kPiece 78 W' (w.heap.size + 2) (fun _ => True) pv ps) (hj : Kd.R (kJoint 67) 139 W' base (fun _ => True) jv1 js1) (hb : Below w0.heap.size w0 W') : NI w0 w code A c bc base k pv jv1 ps js1 (W'.setCell ⟨w.heap.size + 1, 1, none⟩ jv1) := by
  have hbl := h.bl
  have hb1 := h.b1
  have hbs := h.bs
  have key : ∀ b, b < w.heap.size + 2 → some b ≠ jv.ownBlock := fun b hb he => by
    have := Kd.R_base h.jr b he.symm
    omega
  have kp : KeepBut w W' bc none := ⟨Nat.le_trans h.kp.1 hg.size, fun i hi h1 h2 => (hg.block i (Nat.lt_of_lt_of_le hi h.kp.1) (key _ (by omega))).trans (h.kp.2 i hi h1 h2)⟩
  refine ⟨(h.cur.grownB hg (key _ (by omega))).far (by omega) _, (h.res.grownB hg (key _ (by omega))).far (by omega) _, ?_, R_apart hp (by show w.heap.size + 1 < _; omega) _, R_apart hj (by show w.heap.size + 1 < _; omega) _, Below.setCell hb (by show w0.heap.size ≤ w.heap.size + 1; omega) _, keep_far kp (by show w.heap.size ≤ w.heap.size + 1; omega) _, ?_, h.bs, h.bl, h.b1⟩
  · exact (h.net.grownB hg (key _ (by omega))).set (i := 1) (by simp) _
  · rw [setCell_sz]; exact Nat.le_trans h.sz hg.size
end
end Go.Proofs.Ytckcffjnffcjcaa
