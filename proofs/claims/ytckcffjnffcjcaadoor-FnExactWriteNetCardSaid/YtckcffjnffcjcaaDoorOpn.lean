/- How a net among a row's arguments opens (the door seat's program). No conditions. -/
import Derived.Test.YtckcffjnffcjcaaDoorP3
import Derived.Lib.SmallJoins
import Derived.ProofKit
import Derived.Deep.Fields
set_option linter.unusedVariables false
set_option linter.unusedSimpArgs false
namespace Go.Proofs.YtckcffjnffcjcaaDoor
open Go.RowKit Go.Proofs.YtckcffjnffcjcaaDoorW.PrintWords Go.Joins Go.ChangeShapes Go.Deep Go.ChangeAt Go.WideShapes

theorem kEnd_mk (w : World) (x : EndT) : kEnd.K w x [.int .i64 x.piece, .int .i64 x.side] := ⟨[.int .i64 x.piece], [.int .i64 x.side], rfl, rfl, rfl⟩
theorem kPiece_mk (w : World) (x : PieceT) : kPiece.K w x [.string x.name, .int .i64 x.len, .int .i64 x.speed, .int .i64 x.brake] := ⟨[.string x.name], [.int .i64 x.len, .int .i64 x.speed, .int .i64 x.brake], rfl, rfl, ⟨[.int .i64 x.len], [.int .i64 x.speed, .int .i64 x.brake], rfl, rfl, ⟨[.int .i64 x.speed], [.int .i64 x.brake], rfl, rfl, rfl⟩⟩⟩
theorem kJoint_mk {e : Nat} (w : World) (x : JointT) {A2 : Option Addr} {c2 : Nat} (l2 : x.ends.length ≤ c2) (g2 : kEnd.C w A2 x.ends.length x.ends) : (kJoint e).K w x [.int .i64 x.kind, .string x.name, .slice A2 x.ends.length c2] := ⟨[.int .i64 x.kind], [.string x.name, .slice A2 x.ends.length c2], rfl, rfl, ⟨[.string x.name], [.slice A2 x.ends.length c2], rfl, rfl, ⟨A2, c2, rfl, l2, g2⟩⟩⟩
/-- Every reading of type t is a value of kind d that meets G. -/
structure Opn {α : Type} (P : Program) (d : Kd α) (t : TypeId) (G : α → Prop) : Prop where
  out : ∀ {H : Type} {enc : TypeId × Value → H} {w : World} {base : Nat} {spare : Nat → Bool} {held : Bool} {fuel : Nat} {cs : List Value} {x : DataW H × List MemPlace},
    DataW.trod enc P w base spare held fuel t cs = some x → ∃ a, d.K w a cs ∧ G a

theorem I64.of_wf {a : Int} (h : (Lit.int .i64 a).wf = true) : I64 a := by
  simp only [Lit.wf, Bool.and_eq_true, decide_eq_true_eq] at h
  have h1 : IntKind.i64.min = -9223372036854775808 := rfl
  have h2 : IntKind.i64.max = 9223372036854775807 := rfl
  rw [h1, h2] at h
  unfold I64
  omega
section
variable {P : Program}
theorem opn_i64 {t : TypeId} (ht : P.underlying t = some (.int .i64)) : Opn P (Kd.int .i64) t I64 := ⟨fun h => by
  obtain ⟨n, rfl, _, hw⟩ := DataW.trod_int ht h
  exact ⟨n, rfl, I64.of_wf hw⟩⟩
theorem opn_u8 {t : TypeId} (ht : P.underlying t = some (.int .u8)) : Opn P (Kd.int .u8) t (fun a => 0 ≤ a ∧ a ≤ 255) := ⟨fun h => by
  obtain ⟨n, rfl, _, hw⟩ := DataW.trod_int ht h
  refine ⟨n, rfl, ?_⟩
  simp only [Lit.wf, Bool.and_eq_true, decide_eq_true_eq] at hw
  have h1 : IntKind.u8.min = 0 := rfl
  have h2 : IntKind.u8.max = 255 := rfl
  rw [h1, h2] at hw
  exact hw⟩
theorem opn_str {t : TypeId} (ht : P.underlying t = some .string) : Opn P Kd.string t (fun s => s.size ≤ 9223372036854775807) := ⟨fun h => by
  obtain ⟨s, rfl, _, hw⟩ := DataW.trod_string ht h
  exact ⟨s, rfl, hw⟩⟩
theorem list_of_each {α : Type} {Q : Nat → α → Prop} : ∀ (n : Nat), (∀ i, i < n → ∃ y, Q i y) → ∃ l : List α, l.length = n ∧ ∀ i y, l[i]? = some y → Q i y
  | 0, _ => ⟨[], rfl, fun i y h => by simp at h⟩
  | n + 1, h => by
    obtain ⟨l, hl, hq⟩ := list_of_each n (fun i hi => h i (by omega))
    obtain ⟨y, hy⟩ := h n (by omega)
    refine ⟨l ++ [y], by simp [hl], fun i z hz => ?_⟩
    by_cases hi : i < n
    · rw [List.getElem?_append_left (by omega)] at hz
      exact hq i z hz
    · rw [List.getElem?_append_right (by omega)] at hz
      have : i = n := by
        have := (List.getElem?_eq_some_iff.1 hz).1
        simp at this
        omega
      subst this
      rw [hl] at hz
      simp at hz
      subst hz
      exact hy
theorem cells_get {w : World} {base : Nat} {a : Addr} {n : Nat} {cs : List Value} (h : w.cells? base a n = some cs) (i : Nat) (u : Value) (hu : cs[i]? = some u) : w.cell? (a.add i) = some u := by
  unfold World.cells? at h
  split at h
  · have hl := mapM_some_length h
    simp at hl
    have hi : i < n := by have := (List.getElem?_eq_some_iff.1 hu).1; omega
    have := mapM_some_get h i i (by simp [hi])
    rw [this, hu]
  · cases h
theorem add_add (a : Addr) (i j : Nat) (h : a.spot = none ∨ 0 < i ∨ True) : (a.add i).add j = a.add (i + j) := by
  unfold Addr.add
  by_cases hi : i = 0 <;> by_cases hj : j = 0 <;> simp [hi, hj, Nat.add_assoc]
theorem opn_slice {α : Type} {d : Kd α} {t e : TypeId} {G : α → Prop} (ht : P.underlying t = some (.slice e)) (hsz : P.cellsOf e = d.sz) (h : Opn P d e G) :
    Opn P (Kd.slice e d) t (fun l => l.length ≤ 9223372036854775807 ∧ ∀ x ∈ l, G x) := ⟨fun hx => by
  rcases DataW.trod_slice ht hx with ⟨rfl, _⟩ | ⟨a, len, cap, elems, rest, n, _, rfl, _, _, hlc, hcm, hel, hi, _, _⟩
  · refine ⟨[], ⟨none, 0, rfl, Nat.le_refl _, rfl, by simp, fun h => absurd h (by simp)⟩, by simp, by simp⟩
  · have hm : len ≤ 9223372036854775807 := by unfold maxLen at hcm; omega
    obtain ⟨l, hl, hq⟩ := list_of_each (Q := fun i y => G y ∧ ∃ c, c.length = d.sz ∧ d.K _ y c ∧ ∀ j u, c[j]? = some u → _ = some u) len (fun i hilt => by
      have := hi i hilt
      have h2 : i < elems.length := by omega
      rw [List.getElem?_eq_getElem h2] at this
      obtain ⟨c, hc, hy⟩ := Option.bind_eq_some_iff.1 this
      obtain ⟨y, hK, hG⟩ := h.out hy
      exact ⟨y, hG, c, d.K_len hK, hK, fun j u hu => cells_get hc j u hu⟩)
    refine ⟨l, ⟨some a, cap, by rw [hl], by omega, rfl, by omega, fun _ => ⟨a, rfl, fun j p hp => ?_⟩⟩, by omega, fun x hx => ?_⟩
    · obtain ⟨_, c, hs, hK, hc⟩ := hq j p hp
      refine ⟨c, hs, hK, fun i u hu => ?_⟩
      have := hc i u hu
      rw [hsz, add_add _ _ _ (.inr (.inr trivial))] at this
      exact this
    · obtain ⟨i, hi2, rfl⟩ := List.getElem_of_mem hx
      exact (hq i _ (List.getElem?_eq_getElem hi2)).1⟩
/-- The fields of a struct whose fields have one cell each. -/
theorem trod_each {H : Type} {enc : TypeId × Value → H} {w : World} {base : Nat} {spare : Nat → Bool} {held : Bool} {fuel : Nat} {t : TypeId} {fs : Array Field} {cs : List Value} {x : DataW H × List MemPlace}
    (ht : P.underlying t = some (.struct fs)) (hone : oneCellFields P fs = true) (hC : P.cellsOf t = fs.size) (h : DataW.trod enc P w base spare held fuel t cs = some x) :
    cs.length = fs.size ∧ ∃ n, ∀ (i : Nat) (f : Field) (c : Value), fs[i]? = some f → cs[i]? = some c → ∃ y, DataW.trod enc P w base spare held n f.type [c] = some y := by
  obtain ⟨xs, n, _, _, hl, hlen, hf⟩ := DataW.trod_struct ht h
  refine ⟨hl.trans hC, n, fun i f c hi hc => ?_⟩
  obtain ⟨o, k⟩ := hone_of hone i f hi
  have := hf i f hi
  rw [o, k] at this
  have hlt : i < xs.length := by rw [hlen]; exact (Array.getElem?_eq_some_iff.1 hi).1
  rw [List.getElem?_eq_getElem hlt] at this
  have e : (cs.drop i).take 1 = [c] := by
    obtain ⟨h1, h2⟩ := List.getElem?_eq_some_iff.1 hc
    rw [List.take_one, List.head?_drop, hc]; rfl
  rw [e] at this
  exact ⟨_, this⟩
theorem okWide_agg {w : World} {r : Reach} {b : Nat} {t : TypeId} {fs : Array Field} {v : Value} (ht : P.underlying t = some (.struct fs)) (h : Value.okWide P w r b t v) : ∃ cs, v = .agg cs := by
  unfold Value.okWide at h
  rw [ht] at h
  obtain ⟨cs, rfl, _⟩ := h
  exact ⟨cs, rfl⟩
end
theorem opn_End : Opn Tryd.prog kEnd 134 GEnd := ⟨fun {H enc w base spare held fuel cs x} h => by
  obtain ⟨hl, n, hf⟩ := trod_each Tryd.underlying134 (by kernel_rfl) (by kernel_rfl) h
  match cs, hl with
  | [c0, c1], _ =>
    obtain ⟨y0, h0⟩ := hf 0 _ c0 rfl rfl
    obtain ⟨a0, q0, g0⟩ := (opn_i64 (P := Tryd.prog) Tryd.underlying3).out h0
    obtain rfl := List.singleton_inj.1 q0
    obtain ⟨y1, h1⟩ := hf 1 _ c1 rfl rfl
    obtain ⟨a1, q1, g1⟩ := (opn_i64 (P := Tryd.prog) Tryd.underlying3).out h1
    obtain rfl := List.singleton_inj.1 q1
    exact ⟨⟨a0, a1⟩, kEnd_mk w ⟨a0, a1⟩, ⟨g0, g1⟩⟩⟩
theorem opn_Piece : Opn Tryd.prog kPiece 96 GPiece := ⟨fun {H enc w base spare held fuel cs x} h => by
  obtain ⟨hl, n, hf⟩ := trod_each Tryd.underlying96 (by kernel_rfl) (by kernel_rfl) h
  match cs, hl with
  | [c0, c1, c2, c3], _ =>
    obtain ⟨y0, h0⟩ := hf 0 _ c0 rfl rfl
    obtain ⟨a0, q0, g0⟩ := (opn_str (P := Tryd.prog) Tryd.underlying9).out h0
    obtain rfl := List.singleton_inj.1 q0
    obtain ⟨y1, h1⟩ := hf 1 _ c1 rfl rfl
    obtain ⟨a1, q1, g1⟩ := (opn_i64 (P := Tryd.prog) Tryd.underlying3).out h1
    obtain rfl := List.singleton_inj.1 q1
    obtain ⟨y2, h2⟩ := hf 2 _ c2 rfl rfl
    obtain ⟨a2, q2, g2⟩ := (opn_i64 (P := Tryd.prog) Tryd.underlying3).out h2
    obtain rfl := List.singleton_inj.1 q2
    obtain ⟨y3, h3⟩ := hf 3 _ c3 rfl rfl
    obtain ⟨a3, q3, g3⟩ := (opn_i64 (P := Tryd.prog) Tryd.underlying3).out h3
    obtain rfl := List.singleton_inj.1 q3
    exact ⟨⟨a0, a1, a2, a3⟩, kPiece_mk w ⟨a0, a1, a2, a3⟩, ⟨g0, g1, g2, g3⟩⟩⟩
theorem opn_Joint : Opn Tryd.prog (kJoint 134) 100 GJoint := ⟨fun {H enc w base spare held fuel cs x} h => by
  obtain ⟨hl, n, hf⟩ := trod_each Tryd.underlying100 (by kernel_rfl) (by kernel_rfl) h
  match cs, hl with
  | [c0, c1, c2], _ =>
    obtain ⟨y0, h0⟩ := hf 0 _ c0 rfl rfl
    obtain ⟨a0, q0, g0⟩ := (opn_i64 (P := Tryd.prog) Tryd.underlying3).out h0
    obtain rfl := List.singleton_inj.1 q0
    obtain ⟨y1, h1⟩ := hf 1 _ c1 rfl rfl
    obtain ⟨a1, q1, g1⟩ := (opn_str (P := Tryd.prog) Tryd.underlying9).out h1
    obtain rfl := List.singleton_inj.1 q1
    obtain ⟨y2, h2⟩ := hf 2 _ c2 rfl rfl
    obtain ⟨a2, ⟨A, c, q2, l2, r2⟩, g2⟩ := (opn_slice (P := Tryd.prog) Tryd.underlying98 (by kernel_rfl) opn_End).out h2
    obtain rfl := List.singleton_inj.1 q2
    exact ⟨⟨a0, a1, a2⟩, kJoint_mk w ⟨a0, a1, a2⟩ l2 r2, g0, g1, g2⟩⟩
section
variable {H : Type} {enc : TypeId × Value → H} {W : World} {b0 base : Nat} {spare : Nat → Bool} {held : Bool} {v : Value} {d : DataW H} {p : List MemPlace} {r : Reach}
set_option maxRecDepth 100000 in
theorem open_net (hv : Value.okWide Tryd.prog W r b0 25 v) (h : DataW.Trod enc Tryd.prog W base spare held 25 v d p) :
    ∃ (u : (Option Addr × Nat) × (Option Addr × Nat)) (x : NetT), v = .agg #[.slice u.1.1 x.pieces.length u.1.2, .slice u.2.1 x.joints.length u.2.2] ∧ RdNet 134 W u x ∧ GNet x := by
  obtain ⟨cs, rfl⟩ := okWide_agg Tryd.underlying25 hv
  obtain ⟨fuel, hf⟩ := h
  obtain ⟨hl, n, hf⟩ := trod_each Tryd.underlying25 (by kernel_rfl) (by kernel_rfl) hf
  match cs, hl with
  | ⟨[c0, c1]⟩, _ =>
    obtain ⟨y0, h0⟩ := hf 0 _ c0 rfl rfl
    obtain ⟨a0, ⟨A0, k0, q0, l0, r0⟩, g0⟩ := (opn_slice (P := Tryd.prog) Tryd.underlying22 (by kernel_rfl) opn_Piece).out h0
    obtain rfl := List.singleton_inj.1 q0
    obtain ⟨y1, h1⟩ := hf 1 _ c1 rfl rfl
    obtain ⟨a1, ⟨A1, k1, q1, l1, r1⟩, g1⟩ := (opn_slice (P := Tryd.prog) Tryd.underlying23 (by kernel_rfl) opn_Joint).out h1
    obtain rfl := List.singleton_inj.1 q1
    exact ⟨⟨⟨A0, k0⟩, ⟨A1, k1⟩⟩, ⟨a0, a1⟩, rfl, ⟨⟨r0, l0⟩, ⟨r1, l1⟩⟩, g0, g1⟩
end
end Go.Proofs.YtckcffjnffcjcaaDoor
