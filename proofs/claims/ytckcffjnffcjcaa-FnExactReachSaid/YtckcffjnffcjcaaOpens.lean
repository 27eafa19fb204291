/- How the arguments of a row open: whatever can be read as data of a type is a value of the Lean structure, with the numbers in range. No conditions. -/
import Derived.Test.YtckcffjnffcjcaaBase
import Derived.Test.YtckcffjnffcjcaaFacts
import Derived.Lib.SmallJoins
import Derived.ProofKit
import Derived.Deep.Fields
set_option linter.unusedVariables false
namespace Go.Proofs.Ytckcffjnffcjcaa
open Go.RowKit Go.Proofs.YtckcffjnffcjcaaW.PrintWords Go.Joins Go.ChangeShapes Go.Deep Go.ChangeAt Go.WideShapes

/-- Every reading of type t is a value of kind d that meets G. -/
structure Opn {α : Type} (P : Program) (d : Kd α) (t : TypeId) (G : α → Prop) : Prop where
  out : ∀ {H : Type} {enc : TypeId × Value → H} {w : World} {base : Nat} {spare : Nat → Bool} {held : Bool} {fuel : Nat} {cs : List Value} {x : DataW H × List MemPlace},
    DataW.trod enc P w base spare held fuel t cs = some x → ∃ a, d.K w a cs ∧ G a

def I64 (a : Int) : Prop := -9223372036854775808 ≤ a ∧ a ≤ 9223372036854775807
theorem I64.of_wf {a : Int} (h : (Lit.int .i64 a).wf = true) : I64 a := by
  simp only [Lit.wf, Bool.and_eq_true, decide_eq_true_eq] at h
  have h1 : IntKind.i64.min = -9223372036854775808 := rfl
  have h2 : IntKind.i64.max = 9223372036854775807 := rfl
  rw [h1, h2] at h
  unfold I64
  omega
section
variable {P : Program}
theorem opn_i64 {t : TypeId} (ht : P.underlying t = some (.int .i64)) : Opn P (Kd.int .i64) t I64 := ⟨fun h => by
  obtain ⟨n, rfl, _, hw⟩ := DataW.trod_int ht h
  exact ⟨n, rfl, I64.of_wf hw⟩⟩
theorem opn_u8 {t : TypeId} (ht : P.underlying t = some (.int .u8)) : Opn P (Kd.int .u8) t (fun a => 0 ≤ a ∧ a ≤ 255) := ⟨fun h => by
  obtain ⟨n, rfl, _, hw⟩ := DataW.trod_int ht h
  refine ⟨n, rfl, ?_⟩
  simp only [Lit.wf, Bool.and_eq_true, decide_eq_true_eq] at hw
  have h1 : IntKind.u8.min = 0 := rfl
  have h2 : IntKind.u8.max = 255 := rfl
  rw [h1, h2] at hw
  exact hw⟩
theorem opn_str {t : TypeId} (ht : P.underlying t = some .string) : Opn P Kd.string t (fun s => s.size ≤ 9223372036854775807) := ⟨fun h => by
  obtain ⟨s, rfl, _, hw⟩ := DataW.trod_string ht h
  exact ⟨s, rfl, hw⟩⟩
theorem opn_bool {t : TypeId} (ht : P.underlying t = some .bool) : Opn P Kd.bool t (fun _ => True) := ⟨fun h => by
  obtain ⟨s, rfl, _⟩ := DataW.trod_bool ht h
  exact ⟨s, rfl, trivial⟩⟩
theorem list_of_each {α : Type} {Q : Nat → α → Prop} : ∀ (n : Nat), (∀ i, i < n → ∃ y, Q i y) → ∃ l : List α, l.length = n ∧ ∀ i y, l[i]? = some y → Q i y
  | 0, _ => ⟨[], rfl, fun i y h => by simp at h⟩
  | n + 1, h => by
    obtain ⟨l, hl, hq⟩ := list_of_each n (fun i hi => h i (by omega))
    obtain ⟨y, hy⟩ := h n (by omega)
    refine ⟨l ++ [y], by simp [hl], fun i z hz => ?_⟩
    by_cases hi : i < n
    · rw [List.getElem?_append_left (by omega)] at hz
      exact hq i z hz
    · rw [List.getElem?_append_right (by omega)] at hz
      have : i = n := by
        have := (List.getElem?_eq_some_iff.1 hz).1
        simp at this
        omega
      subst this
      rw [hl] at hz
      simp at hz
      subst hz
      exact hy
theorem cells_get {w : World} {base : Nat} {a : Addr} {n : Nat} {cs : List Value} (h : w.cells? base a n = some cs) (i : Nat) (u : Value) (hu : cs[i]? = some u) : w.cell? (a.add i) = some u := by
  unfold World.cells? at h
  split at h
  · have hl := mapM_some_length h
    simp at hl
    have hi : i < n := by have := (List.getElem?_eq_some_iff.1 hu).1; omega
    have := mapM_some_get h i i (by simp [hi])
    rw [this, hu]
  · cases h
theorem add_add (a : Addr) (i j : Nat) (h : a.spot = none ∨ 0 < i ∨ True) : (a.add i).add j = a.add (i + j) := by
  unfold Addr.add
  by_cases hi : i = 0 <;> by_cases hj : j = 0 <;> simp [hi, hj, Nat.add_assoc]
theorem opn_slice {α : Type} {d : Kd α} {t e : TypeId} {G : α → Prop} (ht : P.underlying t = some (.slice e)) (hsz : P.cellsOf e = d.sz) (h : Opn P d e G) :
    Opn P (Kd.slice e d) t (fun l => l.length ≤ 9223372036854775807 ∧ ∀ x ∈ l, G x) := ⟨fun hx => by
  rcases DataW.trod_slice ht hx with ⟨rfl, _⟩ | ⟨a, len, cap, elems, rest, n, _, rfl, _, _, hlc, hcm, hel, hi, _, _⟩
  · refine ⟨[], ⟨none, 0, rfl, Nat.le_refl _, rfl, by simp, fun h => absurd h (by simp)⟩, by simp, by simp⟩
  · have hm : len ≤ 9223372036854775807 := by unfold maxLen at hcm; omega
    obtain ⟨l, hl, hq⟩ := list_of_each (Q := fun i y => G y ∧ ∃ c, c.length = d.sz ∧ d.K _ y c ∧ ∀ j u, c[j]? = some u → _ = some u) len (fun i hilt => by
      have := hi i hilt
      have h2 : i < elems.length := by omega
      rw [List.getElem?_eq_getElem h2] at this
      obtain ⟨c, hc, hy⟩ := Option.bind_eq_some_iff.1 this
      obtain ⟨y, hK, hG⟩ := h.out hy
      exact ⟨y, hG, c, d.K_len hK, hK, fun j u hu => cells_get hc j u hu⟩)
    refine ⟨l, ⟨some a, cap, by rw [hl], by omega, rfl, by omega, fun _ => ⟨a, rfl, fun j p hp => ?_⟩⟩, by omega, fun x hx => ?_⟩
    · obtain ⟨_, c, hs, hK, hc⟩ := hq j p hp
      refine ⟨c, hs, hK, fun i u hu => ?_⟩
      have := hc i u hu
      rw [hsz, add_add _ _ _ (.inr (.inr trivial))] at this
      exact this
    · obtain ⟨i, hi2, rfl⟩ := List.getElem_of_mem hx
      exact (hq i _ (List.getElem?_eq_getElem hi2)).1⟩
/-- The fields of a struct whose fields have one cell each. -/
theorem trod_each {H : Type} {enc : TypeId × Value → H} {w : World} {base : Nat} {spare : Nat → Bool} {held : Bool} {fuel : Nat} {t : TypeId} {fs : Array Field} {cs : List Value} {x : DataW H × List MemPlace}
    (ht : P.underlying t = some (.struct fs)) (hone : oneCellFields P fs = true) (hC : P.cellsOf t = fs.size) (h : DataW.trod enc P w base spare held fuel t cs = some x) :
    cs.length = fs.size ∧ ∃ n, ∀ (i : Nat) (f : Field) (c : Value), fs[i]? = some f → cs[i]? = some c → ∃ y, DataW.trod enc P w base spare held n f.type [c] = some y := by
  obtain ⟨xs, n, _, _, hl, hlen, hf⟩ := DataW.trod_struct ht h
  refine ⟨hl.trans hC, n, fun i f c hi hc => ?_⟩
  obtain ⟨o, k⟩ := hone_of hone i f hi
  have := hf i f hi
  rw [o, k] at this
  have hlt : i < xs.length := by rw [hlen]; exact (Array.getElem?_eq_some_iff.1 hi).1
  rw [List.getElem?_eq_getElem hlt] at this
  have e : (cs.drop i).take 1 = [c] := by
    obtain ⟨h1, h2⟩ := List.getElem?_eq_some_iff.1 hc
    rw [List.take_one, List.head?_drop, hc]; rfl
  rw [e] at this
  exact ⟨_, this⟩
theorem okWide_agg {w : World} {r : Reach} {b : Nat} {t : TypeId} {fs : Array Field} {v : Value} (ht : P.underlying t = some (.struct fs)) (h : Value.okWide P w r b t v) : ∃ cs, v = .agg cs := by
  unfold Value.okWide at h
  rw [ht] at h
  obtain ⟨cs, rfl, _⟩ := h
  exact ⟨cs, rfl⟩
end
def GEnd (x : EndT) : Prop := I64 x.piece ∧ I64 x.side
theorem opn_End : Opn Try.prog kEnd 65 GEnd := ⟨fun {H enc w base spare held fuel cs x} h => by
  obtain ⟨hl, n, hf⟩ := trod_each Try.underlying65 (by kernel_rfl) (by kernel_rfl) h
  match cs, hl with
  | [c0, c1], _ =>
    obtain ⟨y0, h0⟩ := hf 0 _ c0 rfl rfl
    obtain ⟨a0, q0, g0⟩ := (opn_i64 (P := Try.prog) Try.underlying3).out h0
    obtain rfl := List.singleton_inj.1 q0
    obtain ⟨y1, h1⟩ := hf 1 _ c1 rfl rfl
    obtain ⟨a1, q1, g1⟩ := (opn_i64 (P := Try.prog) Try.underlying3).out h1
    obtain rfl := List.singleton_inj.1 q1
    exact ⟨⟨a0, a1⟩, kEnd_mk w ⟨a0, a1⟩, ⟨g0, g1⟩⟩⟩
def GPiece (x : PieceT) : Prop := x.name.size ≤ 9223372036854775807 ∧ I64 x.len ∧ I64 x.speed ∧ I64 x.brake
theorem opn_Piece : Opn Try.prog kPiece 205 GPiece := ⟨fun {H enc w base spare held fuel cs x} h => by
  obtain ⟨hl, n, hf⟩ := trod_each Try.underlying205 (by kernel_rfl) (by kernel_rfl) h
  match cs, hl with
  | [c0, c1, c2, c3], _ =>
    obtain ⟨y0, h0⟩ := hf 0 _ c0 rfl rfl
    obtain ⟨a0, q0, g0⟩ := (opn_str (P := Try.prog) Try.underlying9).out h0
    obtain rfl := List.singleton_inj.1 q0
    obtain ⟨y1, h1⟩ := hf 1 _ c1 rfl rfl
    obtain ⟨a1, q1, g1⟩ := (opn_i64 (P := Try.prog) Try.underlying3).out h1
    obtain rfl := List.singleton_inj.1 q1
    obtain ⟨y2, h2⟩ := hf 2 _ c2 rfl rfl
    obtain ⟨a2, q2, g2⟩ := (opn_i64 (P := Try.prog) Try.underlying3).out h2
    obtain rfl := List.singleton_inj.1 q2
    obtain ⟨y3, h3⟩ := hf 3 _ c3 rfl rfl
    obtain ⟨a3, q3, g3⟩ := (opn_i64 (P := Try.prog) Try.underlying3).out h3
    obtain rfl := List.singleton_inj.1 q3
    exact ⟨⟨a0, a1, a2, a3⟩, kPiece_mk w ⟨a0, a1, a2, a3⟩, ⟨g0, g1, g2, g3⟩⟩⟩
def GSpot (x : SpotT) : Prop := I64 x.piece ∧ I64 x.at_ ∧ I64 x.way
theorem opn_Spot : Opn Try.prog kSpot 60 GSpot := ⟨fun {H enc w base spare held fuel cs x} h => by
  obtain ⟨hl, n, hf⟩ := trod_each Try.underlying60 (by kernel_rfl) (by kernel_rfl) h
  match cs, hl with
  | [c0, c1, c2], _ =>
    obtain ⟨y0, h0⟩ := hf 0 _ c0 rfl rfl
    obtain ⟨a0, q0, g0⟩ := (opn_i64 (P := Try.prog) Try.underlying3).out h0
    obtain rfl := List.singleton_inj.1 q0
    obtain ⟨y1, h1⟩ := hf 1 _ c1 rfl rfl
    obtain ⟨a1, q1, g1⟩ := (opn_i64 (P := Try.prog) Try.underlying3).out h1
    obtain rfl := List.singleton_inj.1 q1
    obtain ⟨y2, h2⟩ := hf 2 _ c2 rfl rfl
    obtain ⟨a2, q2, g2⟩ := (opn_i64 (P := Try.prog) Try.underlying3).out h2
    obtain rfl := List.singleton_inj.1 q2
    exact ⟨⟨a0, a1, a2⟩, kSpot_mk w ⟨a0, a1, a2⟩, ⟨g0, g1, g2⟩⟩⟩
def GPart (x : PartT) : Prop := I64 x.piece ∧ I64 x.frm ∧ I64 x.upto
theorem opn_Part : Opn Try.prog kPart 129 GPart := ⟨fun {H enc w base spare held fuel cs x} h => by
  obtain ⟨hl, n, hf⟩ := trod_each Try.underlying129 (by kernel_rfl) (by kernel_rfl) h
  match cs, hl with
  | [c0, c1, c2], _ =>
    obtain ⟨y0, h0⟩ := hf 0 _ c0 rfl rfl
    obtain ⟨a0, q0, g0⟩ := (opn_i64 (P := Try.prog) Try.underlying3).out h0
    obtain rfl := List.singleton_inj.1 q0
    obtain ⟨y1, h1⟩ := hf 1 _ c1 rfl rfl
    obtain ⟨a1, q1, g1⟩ := (opn_i64 (P := Try.prog) Try.underlying3).out h1
    obtain rfl := List.singleton_inj.1 q1
    obtain ⟨y2, h2⟩ := hf 2 _ c2 rfl rfl
    obtain ⟨a2, q2, g2⟩ := (opn_i64 (P := Try.prog) Try.underlying3).out h2
    obtain rfl := List.singleton_inj.1 q2
    exact ⟨⟨a0, a1, a2⟩, kPart_mk w ⟨a0, a1, a2⟩, ⟨g0, g1, g2⟩⟩⟩
def GStep (x : StepT) : Prop := I64 x.piece ∧ I64 x.way
theorem opn_Step : Opn Try.prog kStep 176 GStep := ⟨fun {H enc w base spare held fuel cs x} h => by
  obtain ⟨hl, n, hf⟩ := trod_each Try.underlying176 (by kernel_rfl) (by kernel_rfl) h
  match cs, hl with
  | [c0, c1], _ =>
    obtain ⟨y0, h0⟩ := hf 0 _ c0 rfl rfl
    obtain ⟨a0, q0, g0⟩ := (opn_i64 (P := Try.prog) Try.underlying3).out h0
    obtain rfl := List.singleton_inj.1 q0
    obtain ⟨y1, h1⟩ := hf 1 _ c1 rfl rfl
    obtain ⟨a1, q1, g1⟩ := (opn_i64 (P := Try.prog) Try.underlying3).out h1
    obtain rfl := List.singleton_inj.1 q1
    exact ⟨⟨a0, a1⟩, kStep_mk w ⟨a0, a1⟩, ⟨g0, g1⟩⟩⟩
def GLie (x : LieT) : Prop := I64 x.joint ∧ I64 x.lie
theorem opn_Lie : Opn Try.prog kLie 227 GLie := ⟨fun {H enc w base spare held fuel cs x} h => by
  obtain ⟨hl, n, hf⟩ := trod_each Try.underlying227 (by kernel_rfl) (by kernel_rfl) h
  match cs, hl with
  | [c0, c1], _ =>
    obtain ⟨y0, h0⟩ := hf 0 _ c0 rfl rfl
    obtain ⟨a0, q0, g0⟩ := (opn_i64 (P := Try.prog) Try.underlying3).out h0
    obtain rfl := List.singleton_inj.1 q0
    obtain ⟨y1, h1⟩ := hf 1 _ c1 rfl rfl
    obtain ⟨a1, q1, g1⟩ := (opn_i64 (P := Try.prog) Try.underlying3).out h1
    obtain rfl := List.singleton_inj.1 q1
    exact ⟨⟨a0, a1⟩, kLie_mk w ⟨a0, a1⟩, ⟨g0, g1⟩⟩⟩
def GEnds (l : List EndT) : Prop := l.length ≤ 9223372036854775807 ∧ ∀ x ∈ l, GEnd x
def GJoint (x : JointT) : Prop := I64 x.kind ∧ x.name.size ≤ 9223372036854775807 ∧ GEnds x.ends
theorem opn_Joint : Opn Try.prog (kJoint 65) 209 GJoint := ⟨fun {H enc w base spare held fuel cs x} h => by
  obtain ⟨hl, n, hf⟩ := trod_each Try.underlying209 (by kernel_rfl) (by kernel_rfl) h
  match cs, hl with
  | [c0, c1, c2], _ =>
    obtain ⟨y0, h0⟩ := hf 0 _ c0 rfl rfl
    obtain ⟨a0, q0, g0⟩ := (opn_i64 (P := Try.prog) Try.underlying3).out h0
    obtain rfl := List.singleton_inj.1 q0
    obtain ⟨y1, h1⟩ := hf 1 _ c1 rfl rfl
    obtain ⟨a1, q1, g1⟩ := (opn_str (P := Try.prog) Try.underlying9).out h1
    obtain rfl := List.singleton_inj.1 q1
    obtain ⟨y2, h2⟩ := hf 2 _ c2 rfl rfl
    obtain ⟨a2, ⟨A, c, q2, l2, r2⟩, g2⟩ := (opn_slice (P := Try.prog) Try.underlying207 (by kernel_rfl) opn_End).out h2
    obtain rfl := List.singleton_inj.1 q2
    exact ⟨⟨a0, a1, a2⟩, kJoint_mk w ⟨a0, a1, a2⟩ l2 r2, g0, g1, g2⟩⟩
def GNet (x : NetT) : Prop := (x.pieces.length ≤ 9223372036854775807 ∧ ∀ p ∈ x.pieces, GPiece p) ∧ (x.joints.length ≤ 9223372036854775807 ∧ ∀ j ∈ x.joints, GJoint j)
section
variable {H : Type} {enc : TypeId × Value → H} {W : World} {b0 base : Nat} {spare : Nat → Bool} {held : Bool} {v : Value} {d : DataW H} {p : List MemPlace} {r : Reach}
set_option maxRecDepth 100000 in
theorem open_net (hv : Value.okWide Try.prog W r b0 52 v) (h : DataW.Trod enc Try.prog W base spare held 52 v d p) :
    ∃ (u : (Option Addr × Nat) × (Option Addr × Nat)) (x : NetT), v = .agg #[.slice u.1.1 x.pieces.length u.1.2, .slice u.2.1 x.joints.length u.2.2] ∧ RdNet 65 W u x ∧ GNet x := by
  obtain ⟨cs, rfl⟩ := okWide_agg Try.underlying52 hv
  obtain ⟨fuel, hf⟩ := h
  obtain ⟨hl, n, hf⟩ := trod_each Try.underlying52 (by kernel_rfl) (by kernel_rfl) hf
  match cs, hl with
  | ⟨[c0, c1]⟩, _ =>
    obtain ⟨y0, h0⟩ := hf 0 _ c0 rfl rfl
    obtain ⟨a0, ⟨A0, k0, q0, l0, r0⟩, g0⟩ := (opn_slice (P := Try.prog) Try.underlying49 (by kernel_rfl) opn_Piece).out h0
    obtain rfl := List.singleton_inj.1 q0
    obtain ⟨y1, h1⟩ := hf 1 _ c1 rfl rfl
    obtain ⟨a1, ⟨A1, k1, q1, l1, r1⟩, g1⟩ := (opn_slice (P := Try.prog) Try.underlying50 (by kernel_rfl) opn_Joint).out h1
    obtain rfl := List.singleton_inj.1 q1
    exact ⟨⟨⟨A0, k0⟩, ⟨A1, k1⟩⟩, ⟨a0, a1⟩, rfl, ⟨⟨r0, l0⟩, ⟨r1, l1⟩⟩, g0, g1⟩
set_option maxRecDepth 100000 in
theorem open_spot (hv : Value.okWide Try.prog W r b0 60 v) (h : DataW.Trod enc Try.prog W base spare held 60 v d p) :
    ∃ (u : Unit) (x : SpotT), v = .agg #[.int .i64 x.piece, .int .i64 x.at_, .int .i64 x.way] ∧ True ∧ GSpot x := by
  obtain ⟨cs, rfl⟩ := okWide_agg Try.underlying60 hv
  obtain ⟨fuel, hf⟩ := h
  obtain ⟨a, hK, hG⟩ := opn_Spot.out hf
  refine ⟨(), a, ?_, trivial, hG⟩
  have := kSpot_open hK
  simp only [Value.cells] at this
  rw [← this]
set_option maxRecDepth 100000 in
theorem open_end (hv : Value.okWide Try.prog W r b0 65 v) (h : DataW.Trod enc Try.prog W base spare held 65 v d p) :
    ∃ (u : Unit) (x : EndT), v = .agg #[.int .i64 x.piece, .int .i64 x.side] ∧ True ∧ GEnd x := by
  obtain ⟨cs, rfl⟩ := okWide_agg Try.underlying65 hv
  obtain ⟨fuel, hf⟩ := h
  obtain ⟨a, hK, hG⟩ := opn_End.out hf
  refine ⟨(), a, ?_, trivial, hG⟩
  have := kEnd_open hK
  simp only [Value.cells] at this
  rw [← this]
set_option maxRecDepth 100000 in
theorem open_parts (hv : Value.okWide Try.prog W r b0 23 v) (h : DataW.Trod enc Try.prog W base spare held 23 v d p) :
    ∃ (u : Option Addr × Nat) (x : List PartT), v = .slice u.1 x.length u.2 ∧ (Kd.C kPart W u.1 x.length x ∧ x.length ≤ u.2) ∧ (x.length ≤ 9223372036854775807 ∧ ∀ y ∈ x, GPart y) := by
  obtain ⟨A, l, c, rfl⟩ := okWide_slice Try.underlying23 hv
  obtain ⟨fuel, hf⟩ := h
  obtain ⟨a0, ⟨A0, k0, q0, l0, r0⟩, g0⟩ := (opn_slice (P := Try.prog) Try.underlying23 (by kernel_rfl) opn_Part).out hf
  have q1 := List.singleton_inj.1 q0
  exact ⟨⟨A0, k0⟩, a0, q1, ⟨r0, l0⟩, g0⟩
set_option maxRecDepth 100000 in
theorem open_steps (hv : Value.okWide Try.prog W r b0 93 v) (h : DataW.Trod enc Try.prog W base spare held 93 v d p) :
    ∃ (u : Option Addr × Nat) (x : List StepT), v = .slice u.1 x.length u.2 ∧ (Kd.C kStep W u.1 x.length x ∧ x.length ≤ u.2) ∧ (x.length ≤ 9223372036854775807 ∧ ∀ y ∈ x, GStep y) := by
  obtain ⟨A, l, c, rfl⟩ := okWide_slice Try.underlying93 hv
  obtain ⟨fuel, hf⟩ := h
  obtain ⟨a0, ⟨A0, k0, q0, l0, r0⟩, g0⟩ := (opn_slice (P := Try.prog) Try.underlying93 (by kernel_rfl) opn_Step).out hf
  have q1 := List.singleton_inj.1 q0
  exact ⟨⟨A0, k0⟩, a0, q1, ⟨r0, l0⟩, g0⟩
set_option maxRecDepth 100000 in
theorem open_ints (hv : Value.okWide Try.prog W r b0 40 v) (h : DataW.Trod enc Try.prog W base spare held 40 v d p) :
    ∃ (u : Option Addr × Nat) (x : List Int), v = .slice u.1 x.length u.2 ∧ (Kd.C (Kd.int .i64) W u.1 x.length x ∧ x.length ≤ u.2) ∧ (x.length ≤ 9223372036854775807 ∧ ∀ y ∈ x, I64 y) := by
  obtain ⟨A, l, c, rfl⟩ := okWide_slice Try.underlying40 hv
  obtain ⟨fuel, hf⟩ := h
  obtain ⟨a0, ⟨A0, k0, q0, l0, r0⟩, g0⟩ := (opn_slice (P := Try.prog) Try.underlying40 (by kernel_rfl) (opn_i64 Try.underlying3)).out hf
  have q1 := List.singleton_inj.1 q0
  exact ⟨⟨A0, k0⟩, a0, q1, ⟨r0, l0⟩, g0⟩
set_option maxRecDepth 100000 in
theorem open_bytes (hv : Value.okWide Try.prog W r b0 31 v) (h : DataW.Trod enc Try.prog W base spare held 31 v d p) :
    ∃ (u : Option Addr × Nat) (x : List Int), v = .slice u.1 x.length u.2 ∧ (Kd.C (Kd.int .u8) W u.1 x.length x ∧ x.length ≤ u.2) ∧ (x.length ≤ 9223372036854775807 ∧ ∀ y ∈ x, 0 ≤ y ∧ y ≤ 255) := by
  obtain ⟨A, l, c, rfl⟩ := okWide_slice Try.underlying31 hv
  obtain ⟨fuel, hf⟩ := h
  obtain ⟨a0, ⟨A0, k0, q0, l0, r0⟩, g0⟩ := (opn_slice (P := Try.prog) Try.underlying31 (by kernel_rfl) (opn_u8 Try.underlying5)).out hf
  have q1 := List.singleton_inj.1 q0
  exact ⟨⟨A0, k0⟩, a0, q1, ⟨r0, l0⟩, g0⟩
set_option maxRecDepth 100000 in
theorem open_int (hv : Value.okWide Try.prog W r b0 3 v) (h : DataW.Trod enc Try.prog W base spare held 3 v d p) :
    ∃ (u : Unit) (x : Int), v = .int .i64 x ∧ True ∧ I64 x := by
  obtain ⟨x, rfl, rfl, rfl, hw⟩ := Go.ChangeShapes.open_int Try.underlying3 hv h
  exact ⟨(), x, rfl, trivial, I64.of_wf hw⟩
def GPath (x : PathT) : Prop := I64 x.far ∧ (x.steps.length ≤ 9223372036854775807 ∧ ∀ y ∈ x.steps, GStep y) ∧ (x.lies.length ≤ 9223372036854775807 ∧ ∀ y ∈ x.lies, GLie y)
set_option maxRecDepth 100000 in
theorem open_path (hv : Value.okWide Try.prog W r b0 115 v) (h : DataW.Trod enc Try.prog W base spare held 115 v d p) :
    ∃ (u : (Option Addr × Nat) × (Option Addr × Nat)) (x : PathT), v = .agg #[.bool x.ok, .int .i64 x.far, .slice u.1.1 x.steps.length u.1.2, .slice u.2.1 x.lies.length u.2.2] ∧ RdPath W u x ∧ GPath x := by
  obtain ⟨cs, rfl⟩ := okWide_agg Try.underlying115 hv
  obtain ⟨fuel, hf⟩ := h
  obtain ⟨hl, n, hf⟩ := trod_each Try.underlying115 (by kernel_rfl) (by kernel_rfl) hf
  match cs, hl with
  | ⟨[c2, c3, c0, c1]⟩, _ =>
    obtain ⟨y2, h2⟩ := hf 0 _ c2 rfl rfl
    obtain ⟨a2, q2, _⟩ := (opn_bool (P := Try.prog) Try.underlying4).out h2
    obtain rfl := List.singleton_inj.1 q2
    obtain ⟨y3, h3⟩ := hf 1 _ c3 rfl rfl
    obtain ⟨a3, q3, g3⟩ := (opn_i64 (P := Try.prog) Try.underlying3).out h3
    obtain rfl := List.singleton_inj.1 q3
    obtain ⟨y0, h0⟩ := hf 2 _ c0 rfl rfl
    obtain ⟨a0, ⟨A0, k0, q0, l0, r0⟩, g0⟩ := (opn_slice (P := Try.prog) Try.underlying93 (by kernel_rfl) opn_Step).out h0
    obtain rfl := List.singleton_inj.1 q0
    obtain ⟨y1, h1⟩ := hf 3 _ c1 rfl rfl
    obtain ⟨a1, ⟨A1, k1, q1, l1, r1⟩, g1⟩ := (opn_slice (P := Try.prog) Try.underlying113 (by kernel_rfl) opn_Lie).out h1
    obtain rfl := List.singleton_inj.1 q1
    exact ⟨⟨⟨A0, k0⟩, ⟨A1, k1⟩⟩, ⟨a2, a3, a0, a1⟩, rfl, ⟨⟨r0, l0⟩, ⟨r1, l1⟩⟩, g3, g0, g1⟩
end
end Go.Proofs.Ytckcffjnffcjcaa
