/- The state of the reference's Reach amid a round: the answer so far, the new line, the line, the box of the net. No conditions. -/
import Derived.Test.YtckcffjnffcjcaaRchL
set_option linter.unusedVariables false
set_option linter.unusedSimpArgs false
namespace Go.Proofs.Ytckcffjnffcjcaa
open Go.RowKit Go.Proofs.YtckcffjnffcjcaaW.PrintWords
def hR (x : ItemT) : HdrT := (x.1.piece, x.1.at_, x.1.way, x.2, (none, 0, 0))
theorem at_Item {w : World} {A : Option Addr} {n : Nat} {xs : List ItemT} (h : Kd.C kHdr w A n (xs.map hR)) (i : Nat) (hi : i < n) : ∃ ad, A = some ad ∧ w.cell? (ad.add (i * 5)) = some (.int .i64 (xs.getD i default).1.piece) ∧ w.cell? ⟨(ad.add (i * 5)).block, (ad.add (i * 5)).off + 1, none⟩ = some (.int .i64 (xs.getD i default).1.at_) ∧ w.cell? ⟨(ad.add (i * 5)).block, (ad.add (i * 5)).off + 2, none⟩ = some (.int .i64 (xs.getD i default).1.way) ∧ w.cell? ⟨(ad.add (i * 5)).block, (ad.add (i * 5)).off + 3, none⟩ = some (.int .i64 (xs.getD i default).2) ∧ w.cell? ⟨(ad.add (i * 5)).block, (ad.add (i * 5)).off + 4, none⟩ = some (.slice none 0 0) := by
  obtain ⟨ad, c, e2, _, hK, hc0⟩ := Kd.C_get h (hR default) (i : Int) (by omega) (by omega)
  rw [Int.toNat_natCast] at hK hc0
  have hc : ∀ j u, c[j]? = some u → w.cell? (ad.add (i * 5 + j)) = some u := hc0
  obtain rfl := kHdr_open hK
  have hg : (xs.map hR).getD i (hR default) = hR (xs.getD i default) := by
    rw [List.getD_eq_getElem?_getD, List.getD_eq_getElem?_getD, List.getElem?_map]
    cases xs[i]? <;> rfl
  rw [hg] at hc
  exact ⟨ad, e2, hc 0 _ rfl, by rw [← add_field _ _ 1 (by omega)]; exact hc 1 _ rfl, by rw [← add_field _ _ 2 (by omega)]; exact hc 2 _ rfl, by rw [← add_field _ _ 3 (by omega)]; exact hc 3 _ rfl, by rw [← add_field _ _ 4 (by omega)]; exact hc 4 _ rfl⟩
theorem info38R : (Try.prog.info? 38).map (fun i => (i.zero, i.size, i.bytes)) = some (some (.agg #[.int .i64 0, .int .i64 0, .int .i64 0]), 3, 24) := by kernel_rfl
theorem kHdr_38 : ∀ q, q ∈ 172 :: kHdr.E → q ≠ 38 := by decide
theorem kSpot_172 : ∀ q, q ∈ 38 :: kSpot.E → q ≠ 172 := by decide
theorem kEnd_38 : ∀ q, q ∈ 67 :: kEnd.E → q ≠ 38 := by decide
theorem kEnd_172 : ∀ q, q ∈ 67 :: kEnd.E → q ≠ 172 := by decide
theorem below_low {a b : Nat} {w w1 w2 : World} (h : Below a w w1) (k : Below b w1 w2) (hab : a ≤ b) : Below a w w2 :=
  h.trans ⟨k.os, k.tape, k.output, k.size, fun i hi => k.block i (Nat.lt_of_lt_of_le hi hab)⟩
/-- Amid a round. B: from where on the new line lies; xb: a block that is none of the rows'. -/
structure RX (w : World) (nv : List Value) (B xb : Nat) (W : World) (v7 v10 vl : Value) (out : List SpotT) (next line : List ItemT) : Prop where
  net : Bx W w.heap.size nv
  o : kSpot.R 38 W (w.heap.size + 2) (fun k => k ≠ xb) v7 out
  nx : kHdr.R 172 W B (fun k => k ≠ xb) v10 (next.map hR)
  l : kHdr.R 172 W (w.heap.size + 2) (fun k => k < B) vl (line.map hR)
  b0 : Below w.heap.size w W
  hB : w.heap.size + 2 ≤ B
  hW : B ≤ W.heap.size
section
variable {w W W1 : World} {nv : List Value} {B xb : Nat} {v7 v10 vl v1 : Value} {out : List SpotT} {next line : List ItemT}
theorem RX.below (h : RX w nv B xb W v7 v10 vl out next line) (hb : Below W.heap.size W W1) : RX w nv B xb W1 v7 v10 vl out next line :=
  ⟨h.net.below hb, Kd.R_below h.o hb, Kd.R_below h.nx hb, Kd.R_below h.l hb, below_more h.b0 hb, h.hB, Nat.le_trans h.hW hb.size⟩
theorem RX.box (h : RX w nv B xb W v7 v10 vl out next line) : RX w nv B W.heap.size W v7 v10 vl out next line :=
  ⟨h.net, Kd.R_mono (Kd.R_bound h.o) (fun k hk => by have := hk.2.2.1; omega), Kd.R_mono (Kd.R_bound h.nx) (fun k hk => by have := hk.2.2.1; omega), h.l, h.b0, h.hB, h.hW⟩
theorem RX.unbox (h : RX w nv B xb W v7 v10 vl out next line) : RX w nv B w.heap.size W v7 v10 vl out next line :=
  ⟨h.net, Kd.R_mono (Kd.R_bound h.o) (fun k hk => by have := hk.2.1; omega), Kd.R_mono (Kd.R_bound h.nx) (fun k hk => by have := hk.2.1; have := h.hB; omega), h.l, h.b0, h.hB, h.hW⟩
theorem RX.addOut {p : SpotT} (h : RX w nv B xb W v7 v10 vl out next line) (ho : kSpot.R 38 W1 (w.heap.size + 2) (fun k => k ≠ xb) v1 (out ++ [p])) (hb : Below (w.heap.size + 2) W W1) (hg : W.grownBy W1 v7.ownBlock) : RX w nv B xb W1 v1 v10 vl (out ++ [p]) next line :=
  ⟨h.net.grownP hg (fun e => by have := Kd.R_base h.o _ e.symm; omega), ho, Kd.R_over h.nx h.o kHdr_38 hg, Kd.R_over h.l h.o kHdr_38 hg, below_low h.b0 hb (by omega), h.hB, Nat.le_trans h.hW hb.size⟩
theorem RX.addNext {x : ItemT} (h : RX w nv B xb W v7 v10 vl out next line) (hn : kHdr.R 172 W1 B (fun k => k ≠ xb) v1 ((next ++ [x]).map hR)) (hb : Below B W W1) (hg : W.grownBy W1 v10.ownBlock) : RX w nv B xb W1 v7 v1 vl out (next ++ [x]) line :=
  ⟨h.net.grownP hg (fun e => by have := Kd.R_base h.nx _ e.symm; have := h.hB; omega), Kd.R_over h.o h.nx kSpot_172 hg, hn, Kd.R_grown h.l hg (fun k hk e => by have := Kd.R_base h.nx _ e.symm; omega), below_low h.b0 hb (by have := h.hB; omega), h.hB, Nat.le_trans h.hW hb.size⟩
end
/-- Amid the loop over the ends across: the line's own way lies in block xb, the ends in a row from eb on. -/
structure RY (w : World) (nv : List Value) (B xb : Nat) (cv : List Value) (eb : Nat) (ve : Value) (E : List EndT) (W : World) (v7 v10 vl : Value) (out : List SpotT) (next line : List ItemT) : Prop where
  rx : RX w nv B xb W v7 v10 vl out next line
  c : Bx W xb cv
  e : kEnd.R 67 W eb (fun _ => True) ve E
section
variable {w W W1 : World} {nv cv : List Value} {B xb eb : Nat} {ve v7 v10 vl v1 : Value} {E : List EndT} {out : List SpotT} {next line : List ItemT}
theorem RY.below (h : RY w nv B xb cv eb ve E W v7 v10 vl out next line) (hb : Below W.heap.size W W1) : RY w nv B xb cv eb ve E W1 v7 v10 vl out next line :=
  ⟨h.rx.below hb, h.c.below hb, Kd.R_below h.e hb⟩
theorem RY.addOut {p : SpotT} (h : RY w nv B xb cv eb ve E W v7 v10 vl out next line) (ho : kSpot.R 38 W1 (w.heap.size + 2) (fun k => k ≠ xb) v1 (out ++ [p])) (hb : Below (w.heap.size + 2) W W1) (hg : W.grownBy W1 v7.ownBlock) : RY w nv B xb cv eb ve E W1 v1 v10 vl (out ++ [p]) next line :=
  ⟨h.rx.addOut ho hb hg, h.c.grownP hg (fun e => h.rx.o.1 _ e.symm rfl), Kd.R_over h.e h.rx.o kEnd_38 hg⟩
theorem RY.addNext {x : ItemT} (h : RY w nv B xb cv eb ve E W v7 v10 vl out next line) (hn : kHdr.R 172 W1 B (fun k => k ≠ xb) v1 ((next ++ [x]).map hR)) (hb : Below B W W1) (hg : W.grownBy W1 v10.ownBlock) : RY w nv B xb cv eb ve E W1 v7 v1 vl out (next ++ [x]) line :=
  ⟨h.rx.addNext hn hb hg, h.c.grownP hg (fun e => h.rx.nx.1 _ e.symm rfl), Kd.R_over h.e h.rx.nx kEnd_172 hg⟩
end
theorem R_one172 (W : World) (x : ItemT) {base g : Nat} (hg : g = W.heap.size) (hb : base ≤ W.heap.size) : kHdr.R 172 (W.alloc (.cells #[.int .i64 x.1.piece, .int .i64 x.1.at_, .int .i64 x.1.way, .int .i64 x.2, .slice none 0 0] 172)) base (fun _ => True) (.slice (some ⟨g, 0, none⟩) 1 1) ([x].map hR) := R_hdrR W (hR x) hg hb
/-! ### Is it among them -/
def inL {α : Type} [DecidableEq α] (l : List α) (x : α) : Bool := decide (x ∈ l)
theorem inL_nil {α : Type} [DecidableEq α] (l : List α) (x : α) : inL (l.take 0) x = false := by simp [inL]
theorem inL_next {α : Type} [DecidableEq α] [Inhabited α] (l : List α) (x y : α) (j : Nat) (hj : j < l.length) (hy : y = l.getD j default) : inL (l.take (j + 1)) x = (inL (l.take j) x || decide (y = x)) := by
  unfold inL
  rw [take_getD l j hj, ← hy]
  by_cases h1 : x ∈ l.take j
  · simp [h1]
  · by_cases h2 : y = x
    · simp [h1, h2]
    · simp [h1, h2, Ne.symm h2]
theorem inL_yes {α : Type} [DecidableEq α] [Inhabited α] {l : List α} {x y : α} {j : Nat} (h : inL (l.take (j + 1)) x = (inL (l.take j) x || decide (y = x))) (e : y = x) : inL (l.take (j + 1)) x = true := by rw [h, e]; simp
theorem inL_no {α : Type} [DecidableEq α] [Inhabited α] {l : List α} {x y : α} {j : Nat} (h : inL (l.take (j + 1)) x = (inL (l.take j) x || decide (y = x))) (h0 : false = inL (l.take j) x) (e : ¬ y = x) : inL (l.take (j + 1)) x = false := by rw [h, ← h0]; simp [e]
theorem inL_was {α : Type} [DecidableEq α] [Inhabited α] {l : List α} {x y : α} {j : Nat} (h : inL (l.take (j + 1)) x = (inL (l.take j) x || decide (y = x))) (h0 : true = inL (l.take j) x) : inL (l.take (j + 1)) x = true := by rw [h, ← h0]; rfl
theorem addR_in {α : Type} [DecidableEq α] {l : List α} {x : α} (h : inL l x = true) : addR l x = l := by unfold addR; unfold inL at h; rw [if_pos (by simpa using h)]
theorem addR_new {α : Type} [DecidableEq α] {l : List α} {x : α} (h : inL l x = false) : addR l x = l ++ [x] := by unfold addR; unfold inL at h; rw [if_neg (by simpa using h)]
end Go.Proofs.Ytckcffjnffcjcaa
