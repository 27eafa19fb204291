/- A net as a text, in plain words: both sides write it so. No program in sight, no conditions. -/
import Derived.Test.YtckcffjnffcjcaaDoorP3
import Derived.Lib.ItoaNum
set_option linter.unusedVariables false
set_option linter.unusedSimpArgs false
namespace Go.Proofs.YtckcffjnffcjcaaDoor
theorem endB_iff {n : NetT} {e : EndT} : endB n e = true ↔ 0 ≤ e.piece ∧ e.piece < (n.pieces.length : Int) ∧ 0 ≤ e.side ∧ e.side ≤ 1 := by
  unfold endB
  rw [Bool.and_eq_true, inB_true, inB_true]
  omega
theorem digit_is (k : Nat) (h : k < 10) : (48 : UInt8) + UInt8.ofNat k = UInt8.ofNat (48 + k) := by
  rcases (by omega : k = 0 ∨ k = 1 ∨ k = 2 ∨ k = 3 ∨ k = 4 ∨ k = 5 ∨ k = 6 ∨ k = 7 ∨ k = 8 ∨ k = 9) with h | h | h | h | h | h | h | h | h | h <;> subst h <;> decide
theorem decF_digits : ∀ (f n : Nat) (r : List UInt8), n ≤ f → 0 < n → decF f n r = Lib.decDigits n ++ r
  | 0, n, r, hf, hp => by omega
  | f + 1, n, r, hf, hp => by
    show (if n = 0 then r else decF f (n / 10) ((48 + UInt8.ofNat (n % 10)) :: r)) = _
    rw [if_neg (by omega), digit_is _ (by omega)]
    by_cases h : n < 10
    · rw [show n / 10 = 0 by omega, decF_zero, Lib.decDigits, dif_pos h, show n % 10 = n by omega]
      rfl
    · rw [decF_digits f (n / 10) _ (by omega) (by omega)]
      conv => rhs; rw [Lib.decDigits, dif_neg h]
      rw [List.append_assoc]
      rfl
theorem decL_itoa (n : Nat) : decL n = Lib.itoa (n : Int) := by
  have hn : ¬ ((n : Int) < 0) := by omega
  unfold decL Lib.itoa
  rw [if_neg hn, Int.toNat_natCast]
  split
  · rename_i h
    subst h
    rw [Lib.decDigits, dif_pos (by omega)]
    rfl
  · rw [decF_digits n n [] (Nat.le_refl _) (by omega), List.append_nil]
/-- A whole number's text. -/
def decS (n : Int) : ByteArray := ⟨(Lib.itoa n).toArray⟩
def lineP (p : PieceT) : ByteArray := ((((((((⟨#[112, 105, 101, 99, 101, 32]⟩ : ByteArray) ++ p.name) ++ ⟨#[32]⟩) ++ decS p.len) ++ ⟨#[32, 115, 112, 101, 101, 100, 32]⟩) ++ decS p.speed) ++ ⟨#[32, 98, 114, 97, 107, 101, 32]⟩) ++ decS p.brake) ++ ⟨#[10]⟩
def kindS (k : Int) : ByteArray := ([(⟨#[]⟩ : ByteArray), ⟨#[101, 110, 100]⟩, ⟨#[106, 111, 105, 110]⟩, ⟨#[115, 119, 105, 116, 99, 104]⟩, ⟨#[99, 114, 111, 115, 115]⟩] : List ByteArray).getD k.toNat default
def endS (n : NetT) (e : EndT) : ByteArray := (((⟨#[32]⟩ : ByteArray) ++ (n.pieces.getD e.piece.toNat default).name) ++ ⟨#[46]⟩) ++ decS e.side
def nameS (j : JointT) : ByteArray := (⟨#[32]⟩ : ByteArray) ++ j.name
def headJ (out : ByteArray) (j : JointT) : ByteArray := if j.name = ⟨#[]⟩ then out ++ kindS j.kind else (out ++ kindS j.kind) ++ nameS j
def endsJ (n : NetT) (out : ByteArray) (l : List EndT) : ByteArray := l.foldl (fun o e => o ++ endS n e) out
def jointW (n : NetT) (out : ByteArray) (j : JointT) : ByteArray := endsJ n (headJ out j) j.ends ++ ⟨#[10]⟩
def piecesW (l : List PieceT) : ByteArray := l.foldl (fun o p => o ++ lineP p) ⟨#[]⟩
def jointsW (n : NetT) (l : List JointT) : ByteArray := l.foldl (jointW n) (piecesW n.pieces)
def writeV (n : NetT) : ByteArray := if netGood n = true then jointsW n n.joints else ⟨#[]⟩
theorem piecesW_next (l : List PieceT) (i : Nat) (h : i < l.length) : piecesW (l.take (i + 1)) = piecesW (l.take i) ++ lineP (l.getD i default) := by
  unfold piecesW
  rw [take_getD l i h, List.foldl_append]
  rfl
theorem jointsW_next (n : NetT) (l : List JointT) (i : Nat) (h : i < l.length) : jointsW n (l.take (i + 1)) = jointW n (jointsW n (l.take i)) (l.getD i default) := by
  unfold jointsW
  rw [take_getD l i h, List.foldl_append]
  rfl
theorem endsJ_next (n : NetT) (out : ByteArray) (l : List EndT) (i : Nat) (h : i < l.length) : endsJ n out (l.take (i + 1)) = endsJ n out (l.take i) ++ endS n (l.getD i default) := by
  unfold endsJ
  rw [take_getD l i h, List.foldl_append]
  rfl
/-! ### How long -/
theorem nDigits_le (u : Nat) (h : u < 10000000000) : (Lib.decDigits u).length ≤ 10 := by
  have key : ∀ (k u : Nat), u < 10 ^ (k + 1) → (Lib.decDigits u).length ≤ k + 1 := by
    intro k
    induction k with
    | zero => intro u hu; rw [Lib.decDigits, dif_pos (by simpa using hu)]; simp
    | succ k ih =>
      intro u hu
      rw [Lib.decDigits]
      split
      · simp
      · have := ih (u / 10) (by
          rw [Nat.div_lt_iff_lt_mul (by omega)]
          rw [Nat.pow_succ] at hu
          exact hu)
        simp only [List.length_append, List.length_cons, List.length_nil]
        omega
  exact key 9 u (by simpa using h)
theorem decS_len {n : Int} (h0 : 0 ≤ n) (h1 : n < 10000000000) : (decS n).size ≤ 10 := by
  show (Lib.itoa n).toArray.size ≤ 10
  unfold Lib.itoa
  rw [if_neg (by omega)]
  have := nDigits_le n.toNat (by omega)
  simpa using this
theorem app_size (a b : ByteArray) : (a ++ b).size = a.size + b.size := ByteArray.size_append
theorem mk_size (l : Array UInt8) : (ByteArray.mk l).size = l.size := rfl
structure PieceFits (p : PieceT) : Prop where
  nm : p.name.size ≤ 20
  l0 : 0 ≤ p.len
  l1 : p.len ≤ 10000000
  s0 : 0 ≤ p.speed
  s1 : p.speed ≤ 10000
  b0 : 0 ≤ p.brake
  b1 : p.brake ≤ 1000
theorem Good.fits {n : NetT} (h : Good n) {i : Nat} (hi : i < n.pieces.length) : PieceFits (n.pieces.getD i default) := by
  have h1 := h.pc i hi
  unfold badPiece at h1
  simp only [Bool.or_eq_false_iff, Bool.not_eq_false'] at h1
  have h2 := h1.1
  unfold pieceB nameOk at h2
  simp only [Bool.and_eq_true, inB_true, decide_eq_true_eq] at h2
  obtain ⟨⟨⟨⟨_, a1, a2⟩, b1, b2⟩, c1, c2⟩, d1, d2⟩ := h2
  exact ⟨a2, by omega, b2, by omega, c2, by omega, d2⟩
theorem toList_length (s : ByteArray) : s.toList.length = s.size := by
  rw [ByteArray.toList_eq]
  exact Array.length_toList
theorem size_of_nil {s : ByteArray} (h : s.toList = []) : s.size = 0 := by rw [← toList_length, h]; rfl
theorem Good.jname {n : NetT} (h : Good n) {i : Nat} (hi : i < n.joints.length) : (n.joints.getD i default).name.size ≤ 20 := by
  have h1 := h.jc4 i hi
  unfold j4 at h1
  split at h1
  · have h2 : (n.joints.getD i default).name.toList = [] := by simpa using h1
    obtain ⟨s, hs⟩ : ∃ s, s = (n.joints.getD i default).name := ⟨_, rfl⟩
    rw [← hs] at h2 ⊢
    have h6 := size_of_nil h2
    omega
  · simp only [Bool.or_eq_false_iff, Bool.not_eq_false'] at h1
    have h2 := h1.1
    unfold nameOk at h2
    simp only [Bool.and_eq_true, decide_eq_true_eq] at h2
    exact h2.2.2
theorem lineP_size {p : PieceT} (h : PieceFits p) : (lineP p).size ≤ 72 := by
  have h1 := h.nm
  have h2 := decS_len h.l0 (by have := h.l1; omega)
  have h3 := decS_len h.s0 (by have := h.s1; omega)
  have h4 := decS_len h.b0 (by have := h.b1; omega)
  unfold lineP
  simp only [app_size, mk_size, List.size_toArray, List.length_cons, List.length_nil]
  omega
theorem piecesW_size {n : NetT} (h : Good n) : ∀ i, i ≤ n.pieces.length → (piecesW (n.pieces.take i)).size ≤ 72 * i
  | 0, _ => by simp [piecesW, mk_size]
  | i + 1, hi => by
    rw [piecesW_next _ _ hi, app_size]
    have h1 := piecesW_size h i (by omega)
    have h2 := lineP_size (h.fits hi)
    omega
theorem kindS_size (k : Int) : (kindS k).size ≤ 6 := by
  unfold kindS
  rcases (by omega : k.toNat = 0 ∨ k.toNat = 1 ∨ k.toNat = 2 ∨ k.toNat = 3 ∨ k.toNat = 4 ∨ 5 ≤ k.toNat) with h | h | h | h | h | h
  · rw [h]; simp [mk_size]
  · rw [h]; simp [mk_size]
  · rw [h]; simp [mk_size]
  · rw [h]; simp [mk_size]
  · rw [h]; simp [mk_size]
  · rw [List.getD_eq_getElem?_getD, List.getElem?_eq_none (by simpa using h)]
    decide
theorem endS_size {n : NetT} (h : Good n) {e : EndT} (he : endB n e = true) : (endS n e).size ≤ 32 := by
  have hb := endB_iff.1 he
  have h1 := (h.fits (i := e.piece.toNat) (by omega)).nm
  have h2 := decS_len hb.2.2.1 (by omega)
  unfold endS
  simp only [app_size, mk_size, List.size_toArray, List.length_cons, List.length_nil]
  omega
theorem headJ_size {out : ByteArray} {j : JointT} (h : j.name.size ≤ 20) : (headJ out j).size ≤ out.size + 27 := by
  have h1 := kindS_size j.kind
  unfold headJ nameS
  split
  · rw [app_size]; omega
  · simp only [app_size, mk_size, List.size_toArray, List.length_cons, List.length_nil]
    omega
theorem endsJ_size {n : NetT} (h : Good n) (out : ByteArray) (l : List EndT) (hl : ∀ q, q < l.length → endB n (l.getD q default) = true) : ∀ i, i ≤ l.length → (endsJ n out (l.take i)).size ≤ out.size + 32 * i
  | 0, _ => by simp [endsJ]
  | i + 1, hi => by
    rw [endsJ_next _ _ _ _ hi, app_size]
    have h1 := endsJ_size h out l hl i (by omega)
    have h2 := endS_size h (hl i hi)
    omega
theorem jointW_size {n : NetT} (h : Good n) {out : ByteArray} {i : Nat} (hi : i < n.joints.length) : (jointW n out (n.joints.getD i default)).size ≤ out.size + 156 := by
  have h1 := headJ_size (out := out) (h.jname hi)
  obtain ⟨k1, k2, k3, k4⟩ := h.kindAt hi
  have h2 := endsJ_size h (headJ out (n.joints.getD i default)) _ k4 (n.joints.getD i default).ends.length (Nat.le_refl _)
  rw [List.take_length] at h2
  unfold jointW
  simp only [app_size, mk_size, List.size_toArray, List.length_cons, List.length_nil]
  omega
theorem jointsW_size {n : NetT} (h : Good n) : ∀ i, i ≤ n.joints.length → (jointsW n (n.joints.take i)).size ≤ 7200 + 156 * i
  | 0, _ => by
    have h1 := piecesW_size h n.pieces.length (Nat.le_refl _)
    rw [List.take_length] at h1
    have := h.p1
    show (piecesW n.pieces).size ≤ _
    omega
  | i + 1, hi => by
    rw [jointsW_next _ _ _ hi]
    have h1 := jointsW_size h i (by omega)
    have h2 := jointW_size h (out := jointsW n (n.joints.take i)) hi
    omega
end Go.Proofs.YtckcffjnffcjcaaDoor
