/- The program's data types as Lean structures, what their cells hold, what is read of a row of them at an index. No conditions. -/
import Derived.Test.YtckcffjnffcjcaaWWords
set_option linter.unusedVariables false
set_option linter.unusedSimpArgs false
namespace Go.Proofs.Ytckcffjnffcjcaa
open Go.RowKit Go.Proofs.YtckcffjnffcjcaaW.PrintWords

structure EndT where
  piece : Int
  side : Int
instance : Inhabited EndT := ⟨⟨0, 0⟩⟩
theorem EndT.ext_iff {a b : EndT} : (a.piece = b.piece ∧ a.side = b.side) ↔ a = b := by
  cases a; cases b; simp
instance : DecidableEq EndT := fun a b => decidable_of_iff (a.piece = b.piece ∧ a.side = b.side) EndT.ext_iff
def kEnd : Kd EndT := Kd.iso (Kd.pair (Kd.int .i64) (Kd.int .i64)) (fun x => (x.piece, x.side))
theorem kEnd_open {w : World} {x : EndT} {cs : List Value} (h : kEnd.K w x cs) : cs = [.int .i64 x.piece, .int .i64 x.side] := by
  obtain ⟨_, _, rfl, rfl, rfl⟩ := h
  exact rfl
theorem kEnd_mk (w : World) (x : EndT) : kEnd.K w x [.int .i64 x.piece, .int .i64 x.side] := ⟨[.int .i64 x.piece], [.int .i64 x.side], rfl, rfl, rfl⟩
theorem kEnd_openM {w : World} {base : Nat} {ok : Nat → Prop} {x : EndT} {cs : List Value} (h : kEnd.M w base ok x cs) : cs = [.int .i64 x.piece, .int .i64 x.side] := by
  obtain ⟨_, _, rfl, rfl, rfl⟩ := h
  exact rfl
theorem kEnd_mkM (w : World) (base : Nat) (ok : Nat → Prop) (x : EndT) : kEnd.M w base ok x [.int .i64 x.piece, .int .i64 x.side] := ⟨[.int .i64 x.piece], [.int .i64 x.side], rfl, rfl, rfl⟩
theorem at_End {w : World} {A : Option Addr} {n : Nat} {xs : List EndT} (h : Kd.C kEnd w A n xs) (i : Nat) (hi : i < n) : ∃ ad, A = some ad ∧ w.cell? (ad.add (i * 2)) = some (.int .i64 (xs.getD i default).piece) ∧ w.cell? ⟨(ad.add (i * 2)).block, (ad.add (i * 2)).off + 1, none⟩ = some (.int .i64 (xs.getD i default).side) := by
  obtain ⟨ad, c, e, _, hK, hc0⟩ := Kd.C_get h default (i : Int) (by omega) (by omega)
  rw [Int.toNat_natCast] at hK hc0
  have hc : ∀ j u, c[j]? = some u → w.cell? (ad.add (i * 2 + j)) = some u := hc0
  obtain rfl := kEnd_open hK
  exact ⟨ad, e, hc 0 _ rfl, by rw [← add_field _ _ 1 (by omega)]; exact hc 1 _ rfl⟩
structure PieceT where
  name : ByteArray
  len : Int
  speed : Int
  brake : Int
instance : Inhabited PieceT := ⟨⟨⟨#[]⟩, 0, 0, 0⟩⟩
theorem PieceT.ext_iff {a b : PieceT} : (a.name = b.name ∧ a.len = b.len ∧ a.speed = b.speed ∧ a.brake = b.brake) ↔ a = b := by
  cases a; cases b; simp
instance : DecidableEq PieceT := fun a b => decidable_of_iff (a.name = b.name ∧ a.len = b.len ∧ a.speed = b.speed ∧ a.brake = b.brake) PieceT.ext_iff
def kPiece : Kd PieceT := Kd.iso (Kd.pair Kd.string (Kd.pair (Kd.int .i64) (Kd.pair (Kd.int .i64) (Kd.int .i64)))) (fun x => (x.name, x.len, x.speed, x.brake))
theorem kPiece_open {w : World} {x : PieceT} {cs : List Value} (h : kPiece.K w x cs) : cs = [.string x.name, .int .i64 x.len, .int .i64 x.speed, .int .i64 x.brake] := by
  obtain ⟨_, _, rfl, rfl, ⟨_, _, rfl, rfl, ⟨_, _, rfl, rfl, rfl⟩⟩⟩ := h
  exact rfl
theorem kPiece_mk (w : World) (x : PieceT) : kPiece.K w x [.string x.name, .int .i64 x.len, .int .i64 x.speed, .int .i64 x.brake] := ⟨[.string x.name], [.int .i64 x.len, .int .i64 x.speed, .int .i64 x.brake], rfl, rfl, ⟨[.int .i64 x.len], [.int .i64 x.speed, .int .i64 x.brake], rfl, rfl, ⟨[.int .i64 x.speed], [.int .i64 x.brake], rfl, rfl, rfl⟩⟩⟩
theorem kPiece_openM {w : World} {base : Nat} {ok : Nat → Prop} {x : PieceT} {cs : List Value} (h : kPiece.M w base ok x cs) : cs = [.string x.name, .int .i64 x.len, .int .i64 x.speed, .int .i64 x.brake] := by
  obtain ⟨_, _, rfl, rfl, ⟨_, _, rfl, rfl, ⟨_, _, rfl, rfl, rfl⟩⟩⟩ := h
  exact rfl
theorem kPiece_mkM (w : World) (base : Nat) (ok : Nat → Prop) (x : PieceT) : kPiece.M w base ok x [.string x.name, .int .i64 x.len, .int .i64 x.speed, .int .i64 x.brake] := ⟨[.string x.name], [.int .i64 x.len, .int .i64 x.speed, .int .i64 x.brake], rfl, rfl, ⟨[.int .i64 x.len], [.int .i64 x.speed, .int .i64 x.brake], rfl, rfl, ⟨[.int .i64 x.speed], [.int .i64 x.brake], rfl, rfl, rfl⟩⟩⟩
theorem at_Piece {w : World} {A : Option Addr} {n : Nat} {xs : List PieceT} (h : Kd.C kPiece w A n xs) (i : Nat) (hi : i < n) : ∃ ad, A = some ad ∧ w.cell? (ad.add (i * 4)) = some (.string (xs.getD i default).name) ∧ w.cell? ⟨(ad.add (i * 4)).block, (ad.add (i * 4)).off + 1, none⟩ = some (.int .i64 (xs.getD i default).len) ∧ w.cell? ⟨(ad.add (i * 4)).block, (ad.add (i * 4)).off + 2, none⟩ = some (.int .i64 (xs.getD i default).speed) ∧ w.cell? ⟨(ad.add (i * 4)).block, (ad.add (i * 4)).off + 3, none⟩ = some (.int .i64 (xs.getD i default).brake) := by
  obtain ⟨ad, c, e, _, hK, hc0⟩ := Kd.C_get h default (i : Int) (by omega) (by omega)
  rw [Int.toNat_natCast] at hK hc0
  have hc : ∀ j u, c[j]? = some u → w.cell? (ad.add (i * 4 + j)) = some u := hc0
  obtain rfl := kPiece_open hK
  exact ⟨ad, e, hc 0 _ rfl, by rw [← add_field _ _ 1 (by omega)]; exact hc 1 _ rfl, by rw [← add_field _ _ 2 (by omega)]; exact hc 2 _ rfl, by rw [← add_field _ _ 3 (by omega)]; exact hc 3 _ rfl⟩
structure SpotT where
  piece : Int
  at_ : Int
  way : Int
instance : Inhabited SpotT := ⟨⟨0, 0, 0⟩⟩
theorem SpotT.ext_iff {a b : SpotT} : (a.piece = b.piece ∧ a.at_ = b.at_ ∧ a.way = b.way) ↔ a = b := by
  cases a; cases b; simp
instance : DecidableEq SpotT := fun a b => decidable_of_iff (a.piece = b.piece ∧ a.at_ = b.at_ ∧ a.way = b.way) SpotT.ext_iff
def kSpot : Kd SpotT := Kd.iso (Kd.pair (Kd.int .i64) (Kd.pair (Kd.int .i64) (Kd.int .i64))) (fun x => (x.piece, x.at_, x.way))
theorem kSpot_open {w : World} {x : SpotT} {cs : List Value} (h : kSpot.K w x cs) : cs = [.int .i64 x.piece, .int .i64 x.at_, .int .i64 x.way] := by
  obtain ⟨_, _, rfl, rfl, ⟨_, _, rfl, rfl, rfl⟩⟩ := h
  exact rfl
theorem kSpot_mk (w : World) (x : SpotT) : kSpot.K w x [.int .i64 x.piece, .int .i64 x.at_, .int .i64 x.way] := ⟨[.int .i64 x.piece], [.int .i64 x.at_, .int .i64 x.way], rfl, rfl, ⟨[.int .i64 x.at_], [.int .i64 x.way], rfl, rfl, rfl⟩⟩
theorem kSpot_openM {w : World} {base : Nat} {ok : Nat → Prop} {x : SpotT} {cs : List Value} (h : kSpot.M w base ok x cs) : cs = [.int .i64 x.piece, .int .i64 x.at_, .int .i64 x.way] := by
  obtain ⟨_, _, rfl, rfl, ⟨_, _, rfl, rfl, rfl⟩⟩ := h
  exact rfl
theorem kSpot_mkM (w : World) (base : Nat) (ok : Nat → Prop) (x : SpotT) : kSpot.M w base ok x [.int .i64 x.piece, .int .i64 x.at_, .int .i64 x.way] := ⟨[.int .i64 x.piece], [.int .i64 x.at_, .int .i64 x.way], rfl, rfl, ⟨[.int .i64 x.at_], [.int .i64 x.way], rfl, rfl, rfl⟩⟩
theorem at_Spot {w : World} {A : Option Addr} {n : Nat} {xs : List SpotT} (h : Kd.C kSpot w A n xs) (i : Nat) (hi : i < n) : ∃ ad, A = some ad ∧ w.cell? (ad.add (i * 3)) = some (.int .i64 (xs.getD i default).piece) ∧ w.cell? ⟨(ad.add (i * 3)).block, (ad.add (i * 3)).off + 1, none⟩ = some (.int .i64 (xs.getD i default).at_) ∧ w.cell? ⟨(ad.add (i * 3)).block, (ad.add (i * 3)).off + 2, none⟩ = some (.int .i64 (xs.getD i default).way) := by
  obtain ⟨ad, c, e, _, hK, hc0⟩ := Kd.C_get h default (i : Int) (by omega) (by omega)
  rw [Int.toNat_natCast] at hK hc0
  have hc : ∀ j u, c[j]? = some u → w.cell? (ad.add (i * 3 + j)) = some u := hc0
  obtain rfl := kSpot_open hK
  exact ⟨ad, e, hc 0 _ rfl, by rw [← add_field _ _ 1 (by omega)]; exact hc 1 _ rfl, by rw [← add_field _ _ 2 (by omega)]; exact hc 2 _ rfl⟩
structure PartT where
  piece : Int
  frm : Int
  upto : Int
instance : Inhabited PartT := ⟨⟨0, 0, 0⟩⟩
theorem PartT.ext_iff {a b : PartT} : (a.piece = b.piece ∧ a.frm = b.frm ∧ a.upto = b.upto) ↔ a = b := by
  cases a; cases b; simp
instance : DecidableEq PartT := fun a b => decidable_of_iff (a.piece = b.piece ∧ a.frm = b.frm ∧ a.upto = b.upto) PartT.ext_iff
def kPart : Kd PartT := Kd.iso (Kd.pair (Kd.int .i64) (Kd.pair (Kd.int .i64) (Kd.int .i64))) (fun x => (x.piece, x.frm, x.upto))
theorem kPart_open {w : World} {x : PartT} {cs : List Value} (h : kPart.K w x cs) : cs = [.int .i64 x.piece, .int .i64 x.frm, .int .i64 x.upto] := by
  obtain ⟨_, _, rfl, rfl, ⟨_, _, rfl, rfl, rfl⟩⟩ := h
  exact rfl
theorem kPart_mk (w : World) (x : PartT) : kPart.K w x [.int .i64 x.piece, .int .i64 x.frm, .int .i64 x.upto] := ⟨[.int .i64 x.piece], [.int .i64 x.frm, .int .i64 x.upto], rfl, rfl, ⟨[.int .i64 x.frm], [.int .i64 x.upto], rfl, rfl, rfl⟩⟩
theorem kPart_openM {w : World} {base : Nat} {ok : Nat → Prop} {x : PartT} {cs : List Value} (h : kPart.M w base ok x cs) : cs = [.int .i64 x.piece, .int .i64 x.frm, .int .i64 x.upto] := by
  obtain ⟨_, _, rfl, rfl, ⟨_, _, rfl, rfl, rfl⟩⟩ := h
  exact rfl
theorem kPart_mkM (w : World) (base : Nat) (ok : Nat → Prop) (x : PartT) : kPart.M w base ok x [.int .i64 x.piece, .int .i64 x.frm, .int .i64 x.upto] := ⟨[.int .i64 x.piece], [.int .i64 x.frm, .int .i64 x.upto], rfl, rfl, ⟨[.int .i64 x.frm], [.int .i64 x.upto], rfl, rfl, rfl⟩⟩
theorem at_Part {w : World} {A : Option Addr} {n : Nat} {xs : List PartT} (h : Kd.C kPart w A n xs) (i : Nat) (hi : i < n) : ∃ ad, A = some ad ∧ w.cell? (ad.add (i * 3)) = some (.int .i64 (xs.getD i default).piece) ∧ w.cell? ⟨(ad.add (i * 3)).block, (ad.add (i * 3)).off + 1, none⟩ = some (.int .i64 (xs.getD i default).frm) ∧ w.cell? ⟨(ad.add (i * 3)).block, (ad.add (i * 3)).off + 2, none⟩ = some (.int .i64 (xs.getD i default).upto) := by
  obtain ⟨ad, c, e, _, hK, hc0⟩ := Kd.C_get h default (i : Int) (by omega) (by omega)
  rw [Int.toNat_natCast] at hK hc0
  have hc : ∀ j u, c[j]? = some u → w.cell? (ad.add (i * 3 + j)) = some u := hc0
  obtain rfl := kPart_open hK
  exact ⟨ad, e, hc 0 _ rfl, by rw [← add_field _ _ 1 (by omega)]; exact hc 1 _ rfl, by rw [← add_field _ _ 2 (by omega)]; exact hc 2 _ rfl⟩
structure StepT where
  piece : Int
  way : Int
instance : Inhabited StepT := ⟨⟨0, 0⟩⟩
theorem StepT.ext_iff {a b : StepT} : (a.piece = b.piece ∧ a.way = b.way) ↔ a = b := by
  cases a; cases b; simp
instance : DecidableEq StepT := fun a b => decidable_of_iff (a.piece = b.piece ∧ a.way = b.way) StepT.ext_iff
def kStep : Kd StepT := Kd.iso (Kd.pair (Kd.int .i64) (Kd.int .i64)) (fun x => (x.piece, x.way))
theorem kStep_open {w : World} {x : StepT} {cs : List Value} (h : kStep.K w x cs) : cs = [.int .i64 x.piece, .int .i64 x.way] := by
  obtain ⟨_, _, rfl, rfl, rfl⟩ := h
  exact rfl
theorem kStep_mk (w : World) (x : StepT) : kStep.K w x [.int .i64 x.piece, .int .i64 x.way] := ⟨[.int .i64 x.piece], [.int .i64 x.way], rfl, rfl, rfl⟩
theorem kStep_openM {w : World} {base : Nat} {ok : Nat → Prop} {x : StepT} {cs : List Value} (h : kStep.M w base ok x cs) : cs = [.int .i64 x.piece, .int .i64 x.way] := by
  obtain ⟨_, _, rfl, rfl, rfl⟩ := h
  exact rfl
theorem kStep_mkM (w : World) (base : Nat) (ok : Nat → Prop) (x : StepT) : kStep.M w base ok x [.int .i64 x.piece, .int .i64 x.way] := ⟨[.int .i64 x.piece], [.int .i64 x.way], rfl, rfl, rfl⟩
theorem at_Step {w : World} {A : Option Addr} {n : Nat} {xs : List StepT} (h : Kd.C kStep w A n xs) (i : Nat) (hi : i < n) : ∃ ad, A = some ad ∧ w.cell? (ad.add (i * 2)) = some (.int .i64 (xs.getD i default).piece) ∧ w.cell? ⟨(ad.add (i * 2)).block, (ad.add (i * 2)).off + 1, none⟩ = some (.int .i64 (xs.getD i default).way) := by
  obtain ⟨ad, c, e, _, hK, hc0⟩ := Kd.C_get h default (i : Int) (by omega) (by omega)
  rw [Int.toNat_natCast] at hK hc0
  have hc : ∀ j u, c[j]? = some u → w.cell? (ad.add (i * 2 + j)) = some u := hc0
  obtain rfl := kStep_open hK
  exact ⟨ad, e, hc 0 _ rfl, by rw [← add_field _ _ 1 (by omega)]; exact hc 1 _ rfl⟩
structure LieT where
  joint : Int
  lie : Int
instance : Inhabited LieT := ⟨⟨0, 0⟩⟩
theorem LieT.ext_iff {a b : LieT} : (a.joint = b.joint ∧ a.lie = b.lie) ↔ a = b := by
  cases a; cases b; simp
instance : DecidableEq LieT := fun a b => decidable_of_iff (a.joint = b.joint ∧ a.lie = b.lie) LieT.ext_iff
def kLie : Kd LieT := Kd.iso (Kd.pair (Kd.int .i64) (Kd.int .i64)) (fun x => (x.joint, x.lie))
theorem kLie_open {w : World} {x : LieT} {cs : List Value} (h : kLie.K w x cs) : cs = [.int .i64 x.joint, .int .i64 x.lie] := by
  obtain ⟨_, _, rfl, rfl, rfl⟩ := h
  exact rfl
theorem kLie_mk (w : World) (x : LieT) : kLie.K w x [.int .i64 x.joint, .int .i64 x.lie] := ⟨[.int .i64 x.joint], [.int .i64 x.lie], rfl, rfl, rfl⟩
theorem kLie_openM {w : World} {base : Nat} {ok : Nat → Prop} {x : LieT} {cs : List Value} (h : kLie.M w base ok x cs) : cs = [.int .i64 x.joint, .int .i64 x.lie] := by
  obtain ⟨_, _, rfl, rfl, rfl⟩ := h
  exact rfl
theorem kLie_mkM (w : World) (base : Nat) (ok : Nat → Prop) (x : LieT) : kLie.M w base ok x [.int .i64 x.joint, .int .i64 x.lie] := ⟨[.int .i64 x.joint], [.int .i64 x.lie], rfl, rfl, rfl⟩
theorem at_Lie {w : World} {A : Option Addr} {n : Nat} {xs : List LieT} (h : Kd.C kLie w A n xs) (i : Nat) (hi : i < n) : ∃ ad, A = some ad ∧ w.cell? (ad.add (i * 2)) = some (.int .i64 (xs.getD i default).joint) ∧ w.cell? ⟨(ad.add (i * 2)).block, (ad.add (i * 2)).off + 1, none⟩ = some (.int .i64 (xs.getD i default).lie) := by
  obtain ⟨ad, c, e, _, hK, hc0⟩ := Kd.C_get h default (i : Int) (by omega) (by omega)
  rw [Int.toNat_natCast] at hK hc0
  have hc : ∀ j u, c[j]? = some u → w.cell? (ad.add (i * 2 + j)) = some u := hc0
  obtain rfl := kLie_open hK
  exact ⟨ad, e, hc 0 _ rfl, by rw [← add_field _ _ 1 (by omega)]; exact hc 1 _ rfl⟩
theorem at_Int {w : World} {A : Option Addr} {n : Nat} {xs : List Int} (h : Kd.C (Kd.int .i64) w A n xs) (i : Nat) (hi : i < n) : ∃ ad, A = some ad ∧ w.cell? (ad.add i) = some (.int .i64 (xs.getD i 0)) := by
  obtain ⟨ad, c, e, _, hK, hc0⟩ := Kd.C_get h 0 (i : Int) (by omega) (by omega)
  rw [Int.toNat_natCast] at hK hc0
  obtain rfl := hK
  refine ⟨ad, e, ?_⟩
  have hq := hc0 0 _ rfl
  simpa [Kd.int, Kd.scalar] using hq
theorem at_Byte {w : World} {A : Option Addr} {n : Nat} {xs : List Int} (h : Kd.C (Kd.int .u8) w A n xs) (i : Nat) (hi : i < n) : ∃ ad, A = some ad ∧ w.cell? (ad.add i) = some (.int .u8 (xs.getD i 0)) := by
  obtain ⟨ad, c, e, _, hK, hc0⟩ := Kd.C_get h 0 (i : Int) (by omega) (by omega)
  rw [Int.toNat_natCast] at hK hc0
  obtain rfl := hK
  refine ⟨ad, e, ?_⟩
  have hq := hc0 0 _ rfl
  simpa [Kd.int, Kd.scalar] using hq
structure JointT where
  kind : Int
  name : ByteArray
  ends : List EndT
instance : Inhabited JointT := ⟨⟨0, ⟨#[]⟩, []⟩⟩
theorem JointT.ext_iff {a b : JointT} : (a.kind = b.kind ∧ a.name = b.name ∧ a.ends = b.ends) ↔ a = b := by
  cases a; cases b; simp
instance : DecidableEq JointT := fun a b => decidable_of_iff (a.kind = b.kind ∧ a.name = b.name ∧ a.ends = b.ends) JointT.ext_iff
/-- A joint; e: the type of its ends' elements. -/
def kJoint (e : Nat) : Kd JointT := Kd.iso (Kd.pair (Kd.int .i64) (Kd.pair Kd.string (Kd.slice e kEnd))) (fun x => (x.kind, x.name, x.ends))
theorem kJoint_open {e : Nat} {w : World} {x : JointT} {cs : List Value} (h : (kJoint e).K w x cs) : ∃ A2 c2, cs = [.int .i64 x.kind, .string x.name, .slice A2 x.ends.length c2] ∧ x.ends.length ≤ c2 ∧ kEnd.C w A2 x.ends.length x.ends := by
  obtain ⟨_, _, rfl, rfl, ⟨_, _, rfl, rfl, ⟨A2, c2, rfl, l2, g2⟩⟩⟩ := h
  exact ⟨A2, c2, rfl, l2, g2⟩
theorem kJoint_openM {e : Nat} {w : World} {base : Nat} {ok : Nat → Prop} {x : JointT} {cs : List Value} (h : (kJoint e).M w base ok x cs) : ∃ v2, cs = [.int .i64 x.kind, .string x.name, v2] ∧ kEnd.R e w base ok v2 x.ends := by
  obtain ⟨_, _, rfl, rfl, ⟨_, _, rfl, rfl, ⟨v2, rfl, g2⟩⟩⟩ := h
  exact ⟨v2, rfl, g2⟩
theorem kJoint_mk {e : Nat} (w : World) (x : JointT) {A2 : Option Addr} {c2 : Nat} (l2 : x.ends.length ≤ c2) (g2 : kEnd.C w A2 x.ends.length x.ends) : (kJoint e).K w x [.int .i64 x.kind, .string x.name, .slice A2 x.ends.length c2] := ⟨[.int .i64 x.kind], [.string x.name, .slice A2 x.ends.length c2], rfl, rfl, ⟨[.string x.name], [.slice A2 x.ends.length c2], rfl, rfl, ⟨A2, c2, rfl, l2, g2⟩⟩⟩
theorem kJoint_mkM {e : Nat} (w : World) (base : Nat) (ok : Nat → Prop) (x : JointT) {v2 : Value} (g2 : kEnd.R e w base ok v2 x.ends) : (kJoint e).M w base ok x [.int .i64 x.kind, .string x.name, v2] := ⟨[.int .i64 x.kind], [.string x.name, v2], rfl, rfl, ⟨[.string x.name], [v2], rfl, rfl, ⟨v2, rfl, g2⟩⟩⟩
theorem at_Joint {e : Nat} {w : World} {A : Option Addr} {n : Nat} {xs : List JointT} (h : Kd.C (kJoint e) w A n xs) (i : Nat) (hi : i < n) : ∃ ad A2 c2, A = some ad ∧ w.cell? (ad.add (i * 3)) = some (.int .i64 (xs.getD i default).kind) ∧ w.cell? ⟨(ad.add (i * 3)).block, (ad.add (i * 3)).off + 1, none⟩ = some (.string (xs.getD i default).name) ∧ w.cell? ⟨(ad.add (i * 3)).block, (ad.add (i * 3)).off + 2, none⟩ = some (.slice A2 (xs.getD i default).ends.length c2) ∧ (xs.getD i default).ends.length ≤ c2 ∧ kEnd.C w A2 (xs.getD i default).ends.length (xs.getD i default).ends := by
  obtain ⟨ad, c, e, _, hK, hc0⟩ := Kd.C_get h default (i : Int) (by omega) (by omega)
  rw [Int.toNat_natCast] at hK hc0
  have hc : ∀ j u, c[j]? = some u → w.cell? (ad.add (i * 3 + j)) = some u := hc0
  obtain ⟨A2, c2, rfl, l2, g2⟩ := kJoint_open hK
  exact ⟨ad, A2, c2, e, hc 0 _ rfl, by rw [← add_field _ _ 1 (by omega)]; exact hc 1 _ rfl, by rw [← add_field _ _ 2 (by omega)]; exact hc 2 _ rfl, l2, g2⟩
structure NetT where
  pieces : List PieceT
  joints : List JointT
instance : Inhabited NetT := ⟨⟨[], []⟩⟩
theorem NetT.ext_iff {a b : NetT} : (a.pieces = b.pieces ∧ a.joints = b.joints) ↔ a = b := by
  cases a; cases b; simp
instance : DecidableEq NetT := fun a b => decidable_of_iff (a.pieces = b.pieces ∧ a.joints = b.joints) NetT.ext_iff

/-- A net's two rows, as they are read; e: the type of the ends' elements. -/
def RdNet (e : Nat) (w : World) (u : (Option Addr × Nat) × (Option Addr × Nat)) (x : NetT) : Prop :=
  (Kd.C kPiece w u.1.1 x.pieces.length x.pieces ∧ x.pieces.length ≤ u.1.2) ∧ (Kd.C (kJoint e) w u.2.1 x.joints.length x.joints ∧ x.joints.length ≤ u.2.2)
theorem RdNet.below {e : Nat} {w w1 : World} {u : (Option Addr × Nat) × (Option Addr × Nat)} {x : NetT} (h : RdNet e w u x) (hb : Below w.heap.size w w1) : RdNet e w1 u x :=
  ⟨⟨Kd.C_below h.1.1 hb, h.1.2⟩, ⟨Kd.C_below h.2.1 hb, h.2.2⟩⟩
structure PathT where
  ok : Bool
  far : Int
  steps : List StepT
  lies : List LieT
theorem PathT.ext_iff {a b : PathT} : (a.ok = b.ok ∧ a.far = b.far ∧ a.steps = b.steps ∧ a.lies = b.lies) ↔ a = b := by
  cases a; cases b; simp
instance : DecidableEq PathT := fun a b => decidable_of_iff (a.ok = b.ok ∧ a.far = b.far ∧ a.steps = b.steps ∧ a.lies = b.lies) PathT.ext_iff
def RdPath (w : World) (u : (Option Addr × Nat) × (Option Addr × Nat)) (x : PathT) : Prop :=
  (Kd.C kStep w u.1.1 x.steps.length x.steps ∧ x.steps.length ≤ u.1.2) ∧ (Kd.C kLie w u.2.1 x.lies.length x.lies ∧ x.lies.length ≤ u.2.2)

end Go.Proofs.Ytckcffjnffcjcaa
