/- The header of a way (a spot, how far, a row of steps), a literal address, an append outside a drawn region. No conditions. -/
import Derived.Test.YtckcffjnffcjcaaCut0
set_option linter.unusedVariables false
set_option linter.unusedSimpArgs false
namespace Go.Proofs.Ytckcffjnffcjcaa
open Go.RowKit Go.Proofs.YtckcffjnffcjcaaW.PrintWords
abbrev HdrT := Int × Int × Int × Int × (Option Addr × Nat × Nat)
def encH (x : Option Addr × Nat × Nat) : Value := .slice x.1 x.2.1 x.2.2
def kHdr : Kd HdrT := Kd.pair (Kd.int .i64) (Kd.pair (Kd.int .i64) (Kd.pair (Kd.int .i64) (Kd.pair (Kd.int .i64) (Kd.scalar encH (fun _ => rfl)))))
def hdrVals (x : HdrT) : List Value := [.int .i64 x.1, .int .i64 x.2.1, .int .i64 x.2.2.1, .int .i64 x.2.2.2.1, encH x.2.2.2.2]
theorem kHdr_open {w : World} {x : HdrT} {cs : List Value} (h : kHdr.K w x cs) : cs = hdrVals x := by
  obtain ⟨c0, d0, rfl, h0, c1, d1, rfl, h1, c2, d2, rfl, h2, c3, d3, rfl, h3, h4⟩ := h
  rw [show c0 = [.int .i64 x.1] from h0, show c1 = [.int .i64 x.2.1] from h1, show c2 = [.int .i64 x.2.2.1] from h2, show c3 = [.int .i64 x.2.2.2.1] from h3, show d3 = [encH x.2.2.2.2] from h4]; rfl
theorem kHdr_mkM (w : World) (base : Nat) (ok : Nat → Prop) (x : HdrT) : kHdr.M w base ok x (hdrVals x) :=
  ⟨[.int .i64 x.1], _, rfl, rfl, [.int .i64 x.2.1], _, rfl, rfl, [.int .i64 x.2.2.1], _, rfl, rfl, [.int .i64 x.2.2.2.1], [encH x.2.2.2.2], rfl, rfl, rfl⟩
theorem add_lit (g i : Nat) : (⟨g, 0, none⟩ : Addr).add i = ⟨g, i, none⟩ := by
  unfold Addr.add
  split
  · rename_i h; rw [h]
  · simp
theorem Bx.grownP {W w1 : World} {b : Nat} {row : Option Nat} {vs : List Value} (h : Bx W b vs) (hk : W.grownBy w1 row) (hne : some b ≠ row) : Bx w1 b vs := by
  have e : w1.heap[b]? = W.heap[b]? := hk.block b h.lt hne
  refine ⟨Nat.lt_of_lt_of_le h.lt hk.size, fun i v hv => ?_, fun i => ?_⟩
  · have := h.c i v hv
    unfold World.cell? at this ⊢
    simp only at this ⊢
    rw [e]; exact this
  · have := h.f i
    unfold World.frozen? at this ⊢
    simp only at this ⊢
    rw [e]; exact this
theorem gate_callP {P : Program} {ops : Array Oper} {rest : List Oper} {o : Oper} {a : Act} {Q : Exit → Act → World → Prop} {W : World} {b : Builtin} {xs : Array Operand} {ts : Array TypeId} (_ho : o.op = .call { callee := .builtin b, args := xs, argTypes := ts }) (h : wpList P ops Q (o :: rest) a W) : wpList P ops Q (o :: rest) a W := h
end Go.Proofs.Ytckcffjnffcjcaa
