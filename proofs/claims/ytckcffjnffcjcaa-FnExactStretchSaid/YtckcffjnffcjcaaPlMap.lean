/- The state of the program's loop over the steps of a path: the answer's row, the map of what has been told, the counter's cell. No conditions. -/
import Derived.Test.YtckcffjnffcjcaaPlStep
import Derived.Test.YtckcffjnffcjcaaNet4
set_option linter.unusedVariables false
set_option linter.unusedSimpArgs false
namespace Go.Proofs.Ytckcffjnffcjcaa
open Go.RowKit Go.Proofs.YtckcffjnffcjcaaW.PrintWords
theorem Bx.grownP {W w1 : World} {b : Nat} {row : Option Nat} {vs : List Value} (h : Bx W b vs) (hk : W.grownBy w1 row) (hne : some b ≠ row) : Bx w1 b vs := by
  have e : w1.heap[b]? = W.heap[b]? := hk.block b h.lt hne
  refine ⟨Nat.lt_of_lt_of_le h.lt hk.size, fun i v hv => ?_, fun i => ?_⟩
  · have := h.c i v hv
    unfold World.cell? at this ⊢
    simp only at this ⊢
    rw [e]; exact this
  · have := h.f i
    unfold World.frozen? at this ⊢
    simp only at this ⊢
    rw [e]; exact this
theorem cell_put {W : World} {k : Nat} {o : Obj} {a : Addr} (h : a.block ≠ k) : (putMap W k o).cell? a = W.cell? a := by
  unfold World.cell?
  rw [putMap_other W k o h]
theorem lie_get {w : World} {b : Nat} {l : List (Int × Int)} (h : MapOf keyInt (.int .i64) w b l) (k : Int) :
    (Instr.lookup 222 (.map (some b)) (.int .i64 k) true).run Try.prog w = .ok (.tuple #[.int .i64 ((lk l k).getD 0), .bool (lk l k).isSome]) w := by
  have := h.lookup (t := 222) (e := 3) Try.underlying222 (zeroInt w) k true
  refine this.trans ?_
  cases lk l k <;> rfl
theorem lie_put {w : World} {b : Nat} {l : List (Int × Int)} (h : MapOf keyInt (.int .i64) w b l) (k v : Int) :
    ∃ o, (Instr.mapUpdate 222 (.map (some b)) (.int .i64 k) (.int .i64 v)).run Try.prog w = .ok () (putMap w b o) ∧ MapOf keyInt (.int .i64) (putMap w b o) b (up l k v) :=
  h.update (t := 222) (e := 3) Try.underlying222 k v
theorem gate_callP {P : Program} {ops : Array Oper} {rest : List Oper} {o : Oper} {a : Act} {Q : Exit → Act → World → Prop} {W : World} {b : Builtin} {xs : Array Operand} {ts : Array TypeId} (_ho : o.op = .call { callee := .builtin b, args := xs, argTypes := ts }) (h : wpList P ops Q (o :: rest) a W) : wpList P ops Q (o :: rest) a W := h
structure PJ (WA W : World) (v : Value) (bi : Nat) (J : Int) (out : List LieT) (lm : List (Int × Int)) : Prop where
  row : Kd.R kLie 111 W (WA.heap.size + 1) (fun g => g ≠ bi) v out
  map : MapOf keyInt (.int .i64) W WA.heap.size lm
  lies : LiesOf lm out
  box : Bx W bi [.int .i64 J]
  lt : WA.heap.size < bi
  b0 : Below WA.heap.size WA W
section
variable {WA W W1 : World} {v : Value} {bi : Nat} {J : Int} {out : List LieT} {lm : List (Int × Int)}
theorem PJ.below (h : PJ WA W v bi J out lm) (hb : Below W.heap.size W W1) : PJ WA W1 v bi J out lm :=
  ⟨Kd.R_below h.row hb, h.map.below hb, h.lies, h.box.below hb, h.lt, below_more h.b0 hb⟩
theorem PJ.sz (h : PJ WA W v bi J out lm) : WA.heap.size < W.heap.size := h.map.lt
theorem PJ.start (WA : World) : PJ WA ((WA.alloc (.map #[] 0)).alloc (.cells #[.int .i64 1] 3)) (.slice none 0 0) (WA.heap.size + 1) 1 [] [] :=
  ⟨Kd.R_nil .., (MapOf.made keyInt (.int .i64) WA).alloc _, LiesOf.nil, by
    have := Bx.new (WA.alloc (.map #[] 0)) [.int .i64 1] 3
    simpa using this, Nat.lt_succ_self _, below_two _ _ _⟩
/-- The counter's new cell. -/
theorem PJ.next (h : PJ WA W v bi J out lm) (J' : Int) : PJ WA (W.alloc (.cells #[.int .i64 J'] 3)) v W.heap.size J' out lm := by
  have ha := h.below (below_alloc (Below.refl _ _) (.cells #[.int .i64 J'] 3))
  have hb := h.sz
  refine ⟨?_, ha.map, h.lies, Bx.new W [.int .i64 J'] 3, hb, ha.b0⟩
  exact Kd.R_below (Kd.R_mono (Kd.R_bound h.row) (fun g hg => by
      show g ≠ W.heap.size
      have := hg.2.2.1; omega)) (below_alloc (Below.refl _ _) (.cells #[.int .i64 J'] 3))
/-- A lie more. -/
theorem PJ.add {o : Obj} {w9 : World} {v9 : Value} {x : LieT} (h : PJ WA W v bi J out lm) (hn : lk lm x.joint = none) (hM : MapOf keyInt (.int .i64) (putMap W WA.heap.size o) WA.heap.size (up lm x.joint x.lie))
    (hR : Kd.R kLie 111 w9 (WA.heap.size + 1) (fun g => g ≠ bi) v9 (out ++ [x])) (hB : Below (WA.heap.size + 1) (putMap W WA.heap.size o) w9) (hG : (putMap W WA.heap.size o).grownBy w9 v.ownBlock) : PJ WA w9 v9 bi J (out ++ [x]) (up lm x.joint x.lie) := by
  refine ⟨hR, hM.move (hB.block _ (Nat.lt_succ_self _)), h.lies.up hn, (h.box.put (by have := h.lt; omega)).grownP hG (fun he => h.row.1 bi he.symm rfl), h.lt, ?_⟩
  have h1 : Below WA.heap.size WA (putMap W WA.heap.size o) := putMap_below h.b0 (Nat.le_refl _)
  exact h1.trans ⟨hB.os, hB.tape, hB.output, hB.size, fun i hi => hB.block i (by omega)⟩
theorem PJ.rowPut {o : Obj} (h : PJ WA W v bi J out lm) : Kd.R kLie 111 (putMap W WA.heap.size o) (WA.heap.size + 1) (fun g => g ≠ bi) v out :=
  Kd.R_mono (Kd.R_step (Kd.R_bound h.row) (fun g hg hlt => putMap_other W WA.heap.size o (by have := hg.2.1; omega))) (fun g hg => hg.1)
end
end Go.Proofs.Ytckcffjnffcjcaa
