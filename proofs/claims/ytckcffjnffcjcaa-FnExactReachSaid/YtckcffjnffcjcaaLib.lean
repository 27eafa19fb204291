/- Small lemmas on lists and worlds that the walks use. No conditions. -/
import Derived.Test.YtckcffjnffcjcaaBase
import Derived.Test.YtckcffjnffcjcaaProg
import Derived.WalkKit
import Derived.Deep.QuietTactic
import Derived.BigQuiet
import Derived.StillTailTactics
import Derived.LoopTactic
import Derived.OwnWalk
import Derived.WalkLawsBesides
import Derived.WalkSpells
import Derived.WideShapes
import Derived.MapKept
set_option linter.unusedVariables false
namespace Go.Proofs.Ytckcffjnffcjcaa
open Go.RowKit Go.WideShapes Go.Proofs.YtckcffjnffcjcaaW.PrintWords
theorem take_getD {α : Type} [Inhabited α] (l : List α) (i : Nat) (h : i < l.length) : l.take (i + 1) = l.take i ++ [l.getD i default] := by
  rw [List.take_succ_eq_append_getElem h, List.getD_eq_getElem?_getD, List.getElem?_eq_getElem h]; rfl
theorem getD_at {α : Type} [Inhabited α] (l : List α) (i : Nat) (h : i < l.length) : l.getD i default = l[i] := by
  rw [List.getD_eq_getElem?_getD, List.getElem?_eq_getElem h]; rfl
/-- One more element is alike. -/
theorem take_step {α : Type} [Inhabited α] {l0 l1 : List α} {i : Nat} (h0 : i < l0.length) (h1 : i < l1.length) (h : l0.take i = l1.take i) {p q : α} (hp : p = l0.getD i default) (hq : q = l1.getD i default) (e : p = q) : l0.take (i + 1) = l1.take (i + 1) := by
  rw [take_getD l0 i h0, take_getD l1 i h1, h, ← hp, ← hq, e]
theorem take_all {α : Type} {l0 l1 : List α} {i : Nat} (h : l0.take i = l1.take i) (h0 : l0.length ≤ i) (h1 : l1.length ≤ i) : l0 = l1 := by
  rwa [List.take_of_length_le h0, List.take_of_length_le h1] at h
theorem ne_of_getD {α : Type} [Inhabited α] {l0 l1 : List α} {i : Nat} {p q : α} (hp : p = l0.getD i default) (hq : q = l1.getD i default) (e : p ≠ q) : l0 ≠ l1 := by
  rintro rfl; exact e (hp.trans hq.symm)
theorem toList_inj {a b : ByteArray} : a.toList = b.toList ↔ a = b :=
  ⟨fun h => bytes_inj (by rw [← ByteArray.toList_eq, ← ByteArray.toList_eq, h]), congrArg _⟩
theorem below_two (w : World) (o1 o2 : Obj) : Below w.heap.size w ((w.alloc o1).alloc o2) := below_alloc (below_alloc (Below.refl _ _) o1) o2
theorem below_more {w w1 w2 : World} (h : Below w.heap.size w w1) (h2 : Below w1.heap.size w1 w2) : Below w.heap.size w w2 := below_then h h.size h2
theorem bcell {W w1 : World} (hb : Below W.heap.size W w1) : (∀ b o, b < W.heap.size → w1.cell? ⟨b, o, none⟩ = W.cell? ⟨b, o, none⟩) ∧ (∀ b o, b < W.heap.size → w1.frozen? ⟨b, o, none⟩ = W.frozen? ⟨b, o, none⟩) :=
  ⟨fun b o h => hb.cell (p := ⟨b, o, none⟩) h, fun b o h => hb.frozen (p := ⟨b, o, none⟩) h⟩
theorem getD_mem {α : Type} [Inhabited α] (l : List α) (i : Nat) (h : i < l.length) : l.getD i default ∈ l := by
  rw [getD_at l i h]; exact List.getElem_mem h
end Go.Proofs.Ytckcffjnffcjcaa
namespace Go.Proofs.Ytckcffjnffcjcaa
open Go.RowKit Go.WideShapes Go.Proofs.YtckcffjnffcjcaaW.PrintWords
section
variable {P : Program} {ops : Array Oper} {rest : List Oper} {o : Oper} {a : Act} {Q : Exit → Act → World → Prop} {α : Type}
/-- A whole element of a row of the call's own is written. -/
theorem store_whole (d : Kd α) {w0 W : World} (base : Nat) (hN : o.dst = none) (hgd : o.guard = none) (t : TypeId) (p x : Operand) (ho : o.op = .store t p x) (e : TypeId) {g n cap o' : Nat} (i : Nat) (xs : List α) (x' : α) (u : Value) (z : α) (ok okp : Nat → Prop)
    (haddr : a.eval p = .pointer (some ⟨g, o', none⟩)) (hoff : o' = i * d.sz) (hx : a.eval x = u) (ht : (P.info? t).map (·.size) = some d.sz)
    (HO : d.R e W base ok (.slice (some ⟨g, 0, none⟩) n cap) xs) (hi : i < n)
    (hM : d.M W base okp x' u.cells.toList) (hokp : ∀ k, okp k → ok k ∧ k ≠ g) (HB : Below base w0 W)
    (h : ∀ w1, d.R e w1 base ok (.slice (some ⟨g, 0, none⟩) n cap) (xs.set i x') → Below base w0 w1 → W.grownBy w1 (some g) → wpList P ops Q rest a w1) : wpList P ops Q (o :: rest) a W := by
  obtain ⟨c, hcl, _, hcc, _⟩ := Kd.R_elem HO z (i : Int) (by omega) (by omega)
  have hl : u.cells.toList.length = d.sz := d.K_len (d.K_of_M hM)
  refine Kd.R_store d base hN hgd t p x ho e (i : Int) 0 xs x' u u.cells.toList c ok okp haddr (by rw [hoff]; simp) hx rfl (by rw [hl]; exact ht) (d.K_one (d.K_of_M hM)) HO (by omega) (by omega) hcl hcc (by omega) ?_ hokp HB ?_
  · have : c.drop (0 + u.cells.toList.length) = [] := List.drop_of_length_le (by omega)
    rw [this]; simpa using hM
  · rw [Int.toNat_natCast]; exact h
end
theorem set_fill {α : Type} [Inhabited α] (l : List α) (i : Nat) (h : i < l.length) : (l.take i ++ List.replicate (l.length - i) default).set i (l.getD i default) = l.take (i + 1) ++ List.replicate (l.length - (i + 1)) default := by
  have hl : (l.take i).length = i := by rw [List.length_take]; omega
  rw [List.set_append_right _ _ (by omega), hl, Nat.sub_self, take_getD l i h, List.append_assoc]
  congr 1
  rw [show l.length - i = (l.length - (i + 1)) + 1 from by omega, List.replicate_succ]
  rfl
end Go.Proofs.Ytckcffjnffcjcaa
namespace Go.Proofs.Ytckcffjnffcjcaa
open Go.RowKit Go.WideShapes Go.Proofs.YtckcffjnffcjcaaW.PrintWords
section
variable {α : Type} {d : Kd α} {e : Nat} {w : World} {base : Nat} {ok : Nat → Prop} {v : Value} {xs : List α}
/-- A store below the base leaves a row alone. -/
theorem R_apart (h : d.R e w base ok v xs) {p : Addr} (hp : p.block < base) (u : Value) : d.R e (w.setCell p u) base ok v xs :=
  Kd.R_mono (Kd.R_far (Kd.R_bound h) (fun k hk => by have := hk.2.1; omega) u) (fun _ hk => hk.1)
/-- Among the ok blocks, those from the base on. -/
theorem R_from (h : d.R e w base ok v xs) : d.R e w base (fun k => base ≤ k) v xs := Kd.R_mono (Kd.R_bound h) (fun _ hk => hk.2.1)
end
theorem below_three (w : World) (o1 o2 o3 : Obj) : Below w.heap.size w (((w.alloc o1).alloc o2).alloc o3) := below_alloc (below_two w o1 o2) o3
end Go.Proofs.Ytckcffjnffcjcaa
namespace Go.Proofs.Ytckcffjnffcjcaa
open Go.RowKit Go.WideShapes Go.Proofs.YtckcffjnffcjcaaW.PrintWords
/-- A block of the call's own that holds these cells. -/
structure Bx (W : World) (b : Nat) (vs : List Value) : Prop where
  lt : b < W.heap.size
  c : ∀ i v, vs[i]? = some v → W.cell? ⟨b, i, none⟩ = some v
  f : ∀ i, W.frozen? ⟨b, i, none⟩ = false
theorem Bx.new (w : World) (vs : List Value) (t : TypeId) : Bx (w.alloc (.cells vs.toArray t)) w.heap.size vs := by
  refine ⟨by simp, fun i v h => ?_, fun i => ?_⟩
  · unfold World.cell?
    rw [(MapKept.heap_alloc w _).1]
    simp [h]
  · unfold World.frozen?
    rw [(MapKept.heap_alloc w _).1]
    simp
theorem Bx.below {W W1 : World} {b : Nat} {vs : List Value} (h : Bx W b vs) (hb : Below W.heap.size W W1) : Bx W1 b vs :=
  ⟨Nat.lt_of_lt_of_le h.lt hb.size, fun i v hv => (hb.cell (p := ⟨b, i, none⟩) h.lt).trans (h.c i v hv), fun i => (hb.frozen (p := ⟨b, i, none⟩) h.lt).trans (h.f i)⟩
theorem Bx.alloc {W : World} {b : Nat} {vs : List Value} (h : Bx W b vs) (o : Obj) : Bx (W.alloc o) b vs := h.below (below_alloc (Below.refl _ _) o)
theorem find_first {p : Nat → Bool} {n i : Nat} (h : i < n) (hp : p i = true) (hb : ∀ k, k < i → p k = false) : (List.range n).find? p = some i := by
  rw [List.find?_range_eq_some]
  exact ⟨hp, by simpa using h, fun j hj => by rw [hb j hj]; rfl⟩
theorem find_none {p : Nat → Bool} {n : Nat} (hb : ∀ k, k < n → p k = false) : (List.range n).find? p = none := by
  rw [List.find?_eq_none]
  intro x hx
  rw [hb x (List.mem_range.1 hx)]; simp
theorem upto_step {p : Nat → Prop} {i : Nat} (h : ∀ k, k < i → p k) (hi : p i) : ∀ k, k < i + 1 → p k := fun k hk => by
  by_cases e : k = i
  · rw [e]; exact hi
  · exact h k (by omega)
end Go.Proofs.Ytckcffjnffcjcaa
