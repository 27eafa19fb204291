/- The drawn nets in plain lists: what a row of bytes tells, choice by choice; a drawn net is good. No conditions. -/
import Derived.Test.YtckcffjnffcjcaaDrv
set_option linter.unusedVariables false
set_option linter.unusedSimpArgs false
namespace Go.Proofs.Ytckcffjnffcjcaa
open Go.RowKit Go.Proofs.YtckcffjnffcjcaaW.PrintWords
/-- The seed behind a step, with a byte or without. -/
def seedW (s b : Int) : Int := IntKind.u64.wrap (IntKind.u64.wrap (IntKind.u64.wrap (s * 6364136223846793005) + b) + 1442695040888963407)
def seedE (s : Int) : Int := IntKind.u64.wrap (IntKind.u64.wrap (s * 6364136223846793005) + 1442695040888963407)
def seedAt (code : List Int) : Nat → Int
  | 0 => 0
  | k + 1 => if k < code.length then seedW (seedAt code k) (code.getD k 0) else seedE (seedAt code k)
/-- The choice behind k others. -/
def nx (code : List Int) (k : Nat) : Int := if k < code.length then code.getD k 0 else (seedAt code (k + 1) / 1099511627776) % 256
def GCode (code : List Int) : Prop := ∀ y ∈ code, 0 ≤ y ∧ y ≤ 255
theorem nx_bd {code : List Int} (h : GCode code) (k : Nat) : 0 ≤ nx code k ∧ nx code k ≤ 255 := by
  unfold nx
  split
  · rename_i hk
    have e : code.getD k 0 = code[k] := by rw [List.getD_eq_getElem?_getD, List.getElem?_eq_getElem hk]; rfl
    rw [e]
    exact h _ (List.getElem_mem hk)
  · omega
def pickV (code : List Int) (n : Int) (k : Nat) : Int := if n ≤ 1 then 0 else if 200 < n then (nx code k * 256 + nx code (k + 1)) % n else nx code k % n
def pickK (n : Int) (k : Nat) : Nat := if n ≤ 1 then k else if 200 < n then k + 2 else k + 1
def wideV (code : List Int) (n : Int) (k : Nat) : Int := (nx code k * 256 + nx code (k + 1)) % n
theorem pickV_bd (code : List Int) {n : Int} (h : 1 ≤ n) (k : Nat) : 0 ≤ pickV code n k ∧ pickV code n k < n := by
  unfold pickV
  split
  · omega
  · split
    · exact ⟨Int.emod_nonneg _ (by omega), Int.emod_lt_of_pos _ (by omega)⟩
    · exact ⟨Int.emod_nonneg _ (by omega), Int.emod_lt_of_pos _ (by omega)⟩
theorem wideV_bd (code : List Int) {n : Int} (h : 1 ≤ n) (k : Nat) : 0 ≤ wideV code n k ∧ wideV code n k < n :=
  ⟨Int.emod_nonneg _ (by omega), Int.emod_lt_of_pos _ (by omega)⟩
/-- A whole number's digits. -/
def decF : Nat → Nat → List UInt8 → List UInt8
  | 0, _, r => r
  | f + 1, n, r => if n = 0 then r else decF f (n / 10) ((48 + UInt8.ofNat (n % 10)) :: r)
def decL (n : Nat) : List UInt8 := if n = 0 then [48] else decF n n []
def nameL (i : Nat) : List UInt8 := (97 + UInt8.ofNat (i % 26)) :: decL i
def nameG (i : Nat) : ByteArray := ⟨(nameL i).toArray⟩
def genPiece (code : List Int) (small : Int) (i k : Nat) : PieceT × Nat :=
  if small = 0 then (⟨nameG i, 1 + pickV code 4 (k + 2), 1 + pickV code 200 (k + 3), 1 + pickV code 90 (k + 4)⟩, k + 5)
  else (⟨nameG i, 1 + wideV code 300 k, 1 + pickV code 200 (k + 2), 1 + pickV code 90 (k + 3)⟩, k + 4)
def genPieces (code : List Int) (small : Int) (k0 : Nat) : Nat → List PieceT × Nat
  | 0 => ([], k0)
  | i + 1 => ((genPieces code small k0 i).1 ++ [(genPiece code small i (genPieces code small k0 i).2).1], (genPiece code small i (genPieces code small k0 i).2).2)
def endsOf : Nat → List EndT
  | 0 => []
  | i + 1 => endsOf i ++ [⟨(i : Int), 0⟩, ⟨(i : Int), 1⟩]
def swapE (l : List EndT) (i k : Nat) : List EndT := (l.set i (l.getD k default)).set k (l.getD i default)
def shufJ (code : List Int) (m k : Nat) : Nat := ((m : Int) - pickV code ((m : Int) + 1) k / (1 + pickV code 3 (k + 1))).toNat
/-- Ends exchanged from place m down to place 1. -/
def shuf (code : List Int) : Nat → List EndT → Nat → List EndT × Nat
  | 0, l, k => (l, k)
  | m + 1, l, k => shuf code m (swapE l (m + 1) (shufJ code (m + 1) k)) (k + 2)
def kindTab : List Int := [1, 2, 2, 3, 3, 3, 4]
def kindG (code : List Int) (left k : Nat) : Nat := if (left : Int) < kindTab.getD (pickV code 7 k).toNat 0 then 1 else (kindTab.getD (pickV code 7 k).toNat 0).toNat
def jointG (code : List Int) (ends : List EndT) (m k : Nat) : JointT :=
  ⟨(kindG code ends.length k : Int), if 3 ≤ kindG code ends.length k then nameG (100 + m) else ⟨#[]⟩, ends.take (kindG code ends.length k)⟩
def jts (code : List Int) : Nat → List EndT → Nat → Nat → List JointT × Nat
  | 0, _, _, k => ([], k)
  | f + 1, ends, m, k => if ends = [] then ([], k) else
    (jointG code ends m k :: (jts code f (ends.drop (kindG code ends.length k)) (m + 1) (k + 1)).1, (jts code f (ends.drop (kindG code ends.length k)) (m + 1) (k + 1)).2)
def piecesN (code : List Int) : Nat := (1 + pickV code 9 1).toNat
def genPs (code : List Int) : List PieceT × Nat := genPieces code (pickV code 4 0) 2 (piecesN code)
def genEs (code : List Int) : List EndT × Nat := shuf code (2 * piecesN code - 1) (endsOf (piecesN code)) (genPs code).2
def genJs (code : List Int) : List JointT × Nat := jts code (2 * piecesN code) (genEs code).1 0 (genEs code).2
def netG (code : List Int) : NetT := ⟨(genPs code).1, (genJs code).1⟩
/-! A drawn net is good. -/
theorem piecesN_bd (code : List Int) : 1 ≤ piecesN code ∧ piecesN code ≤ 9 := by
  have := pickV_bd code (n := 9) (by omega) 1
  unfold piecesN; omega
theorem genPieces_len (code : List Int) (small : Int) (k0 : Nat) : ∀ i, (genPieces code small k0 i).1.length = i
  | 0 => rfl
  | i + 1 => by
    have := genPieces_len code small k0 i
    simp [genPieces, this]
theorem genPiece_is (code : List Int) (small : Int) (i k : Nat) : (genPiece code small i k).1.name = nameG i ∧ 1 ≤ (genPiece code small i k).1.len ∧ (genPiece code small i k).1.len ≤ 300 ∧ 1 ≤ (genPiece code small i k).1.speed ∧ (genPiece code small i k).1.speed ≤ 200 ∧ 1 ≤ (genPiece code small i k).1.brake ∧ (genPiece code small i k).1.brake ≤ 90 ∧ (genPiece code small i k).2 ≤ k + 5 := by
  unfold genPiece
  split
  · have a := pickV_bd code (n := 4) (by omega) (k + 2)
    have b := pickV_bd code (n := 200) (by omega) (k + 3)
    have c := pickV_bd code (n := 90) (by omega) (k + 4)
    refine ⟨rfl, ?_⟩
    simp only
    omega
  · have a := wideV_bd code (n := 300) (by omega) k
    have b := pickV_bd code (n := 200) (by omega) (k + 2)
    have c := pickV_bd code (n := 90) (by omega) (k + 3)
    refine ⟨rfl, ?_⟩
    simp only
    omega
theorem genPieces_at (code : List Int) (small : Int) (k0 : Nat) : ∀ m i, i < m → ∃ k, (genPieces code small k0 m).1.getD i default = (genPiece code small i k).1
  | 0, _, h => absurd h (by omega)
  | m + 1, i, h => by
    have hl := genPieces_len code small k0 m
    by_cases hi : i < m
    · obtain ⟨k, hk⟩ := genPieces_at code small k0 m i hi
      refine ⟨k, ?_⟩
      rw [← hk]
      simp only [genPieces, List.getD_eq_getElem?_getD]
      rw [List.getElem?_append_left (by omega)]
    · have e : i = m := by omega
      subst e
      refine ⟨(genPieces code small k0 i).2, ?_⟩
      simp only [genPieces, List.getD_eq_getElem?_getD]
      rw [List.getElem?_append_right (by omega), hl, Nat.sub_self]
      rfl
theorem genPieces_k (code : List Int) (small : Int) (k0 : Nat) : ∀ i, (genPieces code small k0 i).2 ≤ k0 + 5 * i
  | 0 => by simp [genPieces]
  | i + 1 => by
    have := genPieces_k code small k0 i
    have h2 := (genPiece_is code small i (genPieces code small k0 i).2).2.2.2.2.2.2.2
    simp only [genPieces]
    omega
def nameEqB (i k : Nat) : Bool := nameL i == nameL k
theorem nameG_ne {i k : Nat} (h : nameEqB i k = false) : nameG i ≠ nameG k := by
  intro he
  have : nameL i = nameL k := by
    have := congrArg (fun b => b.data.toList) he
    simpa [nameG] using this
  unfold nameEqB at h
  rw [this] at h
  simp at h
theorem names9 : ∀ i, i < 9 → ∀ k, k < i → nameEqB i k = false := by decide
theorem names18 : ∀ i, i < 18 → ∀ k, k < i → nameEqB (100 + i) (100 + k) = false := by decide
def nameOkL (l : List UInt8) : Bool := (l.map (fun c => (c.toNat : Int))).all nameByte && decide (1 ≤ l.length ∧ l.length ≤ 20)
theorem nameOk_of (l : List UInt8) (h : nameOkL l = true) : nameOk ⟨l.toArray⟩ = true := by
  have e : (⟨l.toArray⟩ : ByteArray).size = l.length := by show l.toArray.size = _; simp
  unfold nameOk bs
  rw [e]
  unfold nameOkL at h
  simpa using h
theorem ok9 : ∀ i, i < 9 → nameOkL (nameL i) = true := by decide
theorem ok18 : ∀ i, i < 18 → nameOkL (nameL (100 + i)) = true := by decide
theorem endsOf_len : ∀ m, (endsOf m).length = 2 * m
  | 0 => rfl
  | m + 1 => by have := endsOf_len m; simp [endsOf, this]; omega
theorem endsOf_mem : ∀ m (e : EndT), e ∈ endsOf m → 0 ≤ e.piece ∧ e.piece < (m : Int) ∧ 0 ≤ e.side ∧ e.side ≤ 1
  | 0, e, h => by simp [endsOf] at h
  | m + 1, e, h => by
    simp only [endsOf, List.mem_append, List.mem_cons, List.not_mem_nil, or_false] at h
    rcases h with h | rfl | rfl
    · have := endsOf_mem m e h; omega
    · simp only; omega
    · simp only; omega
theorem endsOf_count : ∀ m i, i < m → (endsOf m).count ⟨(i : Int), 0⟩ = 1 ∧ (endsOf m).count ⟨(i : Int), 1⟩ = 1
  | 0, _, h => absurd h (by omega)
  | m + 1, i, h => by
    simp only [endsOf, List.count_append, List.count_cons, List.count_nil]
    by_cases hi : i < m
    · have := endsOf_count m i hi
      have h1 : (m : Int) ≠ (i : Int) := by omega
      have e : ∀ a b : Int, ((⟨(m : Int), a⟩ : EndT) == ⟨(i : Int), b⟩) = false := fun a b => by
        simp only [beq_eq_false_iff_ne, ne_eq, EndT.mk.injEq, h1, false_and, not_false_eq_true]
      rw [this.1, this.2, e, e, e, e]
      simp
    · have e : i = m := by omega
      subst e
      have hz : ∀ s : Int, (endsOf i).count ⟨(i : Int), s⟩ = 0 := fun s => List.count_eq_zero_of_not_mem (fun hm => by have := (endsOf_mem i _ hm).2.1; simp only at this; omega)
      rw [hz, hz]
      simp
theorem swapE_len (l : List EndT) (i k : Nat) : (swapE l i k).length = l.length := by unfold swapE; simp
theorem swapE_perm (l : List EndT) {i k : Nat} (hi : i < l.length) (hk : k < l.length) : (swapE l i k).Perm l := by
  have h := Array.swap_perm (xs := l.toArray) (i := i) (j := k) (by simpa using hi) (by simpa using hk)
  have h2 := h.toList
  have e : (l.toArray.swap i k (by simpa using hi) (by simpa using hk)).toList = swapE l i k := by
    unfold swapE
    rw [getD_at l k hk, getD_at l i hi]
    simp [Array.swap]
  rw [e] at h2
  simpa using h2
theorem shufJ_lt (code : List Int) (m k : Nat) : shufJ code m k ≤ m := by
  have a := pickV_bd code (n := (m : Int) + 1) (by omega) k
  have b := pickV_bd code (n := 3) (by omega) (k + 1)
  have c : 0 ≤ pickV code ((m : Int) + 1) k / (1 + pickV code 3 (k + 1)) := Int.ediv_nonneg a.1 (by omega)
  unfold shufJ
  omega
theorem shuf_perm (code : List Int) : ∀ m (l : List EndT) k, m < l.length ∨ m = 0 → (shuf code m l k).1.Perm l
  | 0, l, k, _ => List.Perm.refl _
  | m + 1, l, k, h => by
    have hj := shufJ_lt code (m + 1) k
    have hm : m + 1 < l.length := by omega
    simp only [shuf]
    refine (shuf_perm code m _ _ (.inl (by rw [swapE_len]; omega))).trans (swapE_perm l hm (by omega))
theorem shuf_k (code : List Int) : ∀ m (l : List EndT) k, (shuf code m l k).2 = k + 2 * m
  | 0, l, k => by simp [shuf]
  | m + 1, l, k => by simp only [shuf]; rw [shuf_k]; omega
theorem kindTab_at : ∀ p, p < 7 → 1 ≤ kindTab.getD p 0 ∧ kindTab.getD p 0 ≤ 4 := by decide
theorem kindG_bd (code : List Int) {left : Nat} (h : 0 < left) (k : Nat) : 1 ≤ kindG code left k ∧ kindG code left k ≤ 4 ∧ kindG code left k ≤ left := by
  have a := pickV_bd code (n := 7) (by omega) k
  have b := kindTab_at (pickV code 7 k).toNat (by omega)
  unfold kindG
  split <;> omega
theorem jts_flat (code : List Int) : ∀ f (ends : List EndT) m k, ends.length ≤ f → (jts code f ends m k).1.flatMap (·.ends) = ends
  | 0, ends, m, k, h => by
    have : ends = [] := List.length_eq_zero_iff.1 (by omega)
    subst this; rfl
  | f + 1, ends, m, k, h => by
    simp only [jts]
    split
    · rename_i he; subst he; rfl
    · rename_i he
      have hp : 0 < ends.length := List.length_pos_iff.2 he
      have hk := kindG_bd code hp k
      simp only [List.flatMap_cons]
      rw [jts_flat code f _ _ _ (by rw [List.length_drop]; omega)]
      unfold jointG
      exact List.take_append_drop _ _
theorem jts_len (code : List Int) : ∀ f (ends : List EndT) m k, ends.length ≤ f → (jts code f ends m k).1.length ≤ ends.length
  | 0, ends, m, k, h => by simp [jts]
  | f + 1, ends, m, k, h => by
    simp only [jts]
    split
    · simp
    · rename_i he
      have hp : 0 < ends.length := List.length_pos_iff.2 he
      have hk := kindG_bd code hp k
      have := jts_len code f (ends.drop (kindG code ends.length k)) (m + 1) (k + 1) (by rw [List.length_drop]; omega)
      rw [List.length_drop] at this
      simp only [List.length_cons]
      omega
theorem jts_k (code : List Int) : ∀ f (ends : List EndT) m k, ends.length ≤ f → (jts code f ends m k).2 ≤ k + ends.length
  | 0, ends, m, k, h => by simp [jts]
  | f + 1, ends, m, k, h => by
    simp only [jts]
    split
    · simp
    · rename_i he
      have hp : 0 < ends.length := List.length_pos_iff.2 he
      have hk := kindG_bd code hp k
      have := jts_k code f (ends.drop (kindG code ends.length k)) (m + 1) (k + 1) (by rw [List.length_drop]; omega)
      rw [List.length_drop] at this
      simp only
      omega
theorem jts_at (code : List Int) : ∀ f (ends : List EndT) m k t, t < (jts code f ends m k).1.length → ∃ es q, es ≠ [] ∧ (∀ e ∈ es, e ∈ ends) ∧ (jts code f ends m k).1.getD t default = jointG code es (m + t) q
  | 0, ends, m, k, t, h => by simp [jts] at h
  | f + 1, ends, m, k, t, h => by
    simp only [jts] at h ⊢
    split
    · rename_i he; rw [if_pos he] at h; simp at h
    · rename_i he
      rw [if_neg he] at h
      cases t with
      | zero => exact ⟨ends, k, he, fun _ h => h, rfl⟩
      | succ t =>
        simp only [List.length_cons] at h
        obtain ⟨es, q, h1, h2, h3⟩ := jts_at code f (ends.drop (kindG code ends.length k)) (m + 1) (k + 1) t (by omega)
        refine ⟨es, q, h1, fun e he => List.mem_of_mem_drop (h2 e he), ?_⟩
        rw [List.getD_cons_succ, h3]
        congr 1
        omega
theorem genPs_len (code : List Int) : (genPs code).1.length = piecesN code := genPieces_len ..
theorem genEs_perm (code : List Int) : (genEs code).1.Perm (endsOf (piecesN code)) := by
  have := piecesN_bd code
  exact shuf_perm code _ _ _ (.inl (by rw [endsOf_len]; omega))
theorem genEs_len (code : List Int) : (genEs code).1.length = 2 * piecesN code := by rw [(genEs_perm code).length_eq, endsOf_len]
theorem netG_ends (code : List Int) : allEnds (netG code) = (genEs code).1 := by
  unfold allEnds netG genJs
  exact jts_flat code _ _ _ _ (by rw [genEs_len]; omega)
theorem netG_joints (code : List Int) : (netG code).joints.length ≤ 18 := by
  have h := jts_len code (2 * piecesN code) (genEs code).1 0 (genEs code).2 (by rw [genEs_len]; omega)
  have h2 := genEs_len code
  have h3 := piecesN_bd code
  show (jts code (2 * piecesN code) (genEs code).1 0 (genEs code).2).1.length ≤ 18
  omega
theorem netG_joint (code : List Int) {t : Nat} (h : t < (netG code).joints.length) : ∃ es q, es ≠ [] ∧ (∀ e ∈ es, e ∈ (genEs code).1) ∧ (netG code).joints.getD t default = jointG code es t q := by
  obtain ⟨es, q, h1, h2, h3⟩ := jts_at code (2 * piecesN code) (genEs code).1 0 (genEs code).2 t h
  rw [Nat.zero_add] at h3
  exact ⟨es, q, h1, h2, h3⟩
theorem netG_end (code : List Int) {e : EndT} (h : e ∈ (genEs code).1) : endB (netG code) e = true := by
  have := endsOf_mem _ _ ((genEs_perm code).mem_iff.1 h)
  rw [endB_iff]
  have hl : (netG code).pieces.length = piecesN code := genPs_len code
  rw [hl]
  omega
theorem any_false {α : Type} {l : List α} {p : α → Bool} (h : ∀ x ∈ l, p x = false) : l.any p = false := by
  rw [List.any_eq_false]
  intro x hx
  rw [h x hx]; simp
theorem mem_take_at {α : Type} [Inhabited α] {l : List α} {i : Nat} (hi : i ≤ l.length) {x : α} (h : x ∈ l.take i) : ∃ k, k < i ∧ l.getD k default = x := by
  obtain ⟨k, hk, he⟩ := List.getElem_of_mem h
  rw [List.length_take] at hk
  refine ⟨k, by omega, ?_⟩
  rw [getD_at l k (by omega), ← he]
  simp
theorem netG_good (code : List Int) : netGood (netG code) = true := by
  have hP := piecesN_bd code
  have hl : (netG code).pieces.length = piecesN code := genPs_len code
  have hJ := netG_joints code
  have hps : ∀ i, i < piecesN code → ∃ k, (netG code).pieces.getD i default = (genPiece code (pickV code 4 0) i k).1 := fun i hi => genPieces_at code _ _ _ _ hi
  have h3 : ∀ t, t < (netG code).joints.length → j3 (netG code) ((netG code).joints.getD t default) = false := fun t ht => by
    obtain ⟨es, q, h1, h2, h3⟩ := netG_joint code ht
    have hp : 0 < es.length := List.length_pos_iff.2 h1
    have hk := kindG_bd code hp q
    rw [h3]
    unfold j3
    have a : inB (jointG code es t q).kind 1 4 = true := inB_true.2 (by unfold jointG; simp only; omega)
    have b : (((jointG code es t q).ends.length : Int) != (jointG code es t q).kind) = false := by
      unfold jointG; simp only [bne_eq_false_iff_eq, List.length_take]; omega
    have c : ((jointG code es t q).ends.any (fun e => !endB (netG code) e)) = false := any_false (fun e he => by
      rw [netG_end code (h2 e (List.mem_of_mem_take (by unfold jointG at he; exact he)))]; rfl)
    rw [a, b, c]; rfl
  have h4 : ∀ t, t < (netG code).joints.length → j4 (netG code) t ((netG code).joints.getD t default) = false := fun t ht => by
    obtain ⟨es, q, h1, h2, h3⟩ := netG_joint code ht
    rw [h3]
    unfold j4
    by_cases hk : 3 ≤ kindG code es.length q
    · have hn : (jointG code es t q).name = nameG (100 + t) := by unfold jointG; exact if_pos hk
      rw [if_neg (by unfold jointG; simp only; omega), hn]
      have e1 : nameOk (nameG (100 + t)) = true := nameOk_of _ (ok18 t (by omega))
      rw [e1]
      have e2 : ((netG code).joints.take t).any (fun x => decide (x.name = nameG (100 + t))) = false := any_false (fun x hx => by
        obtain ⟨i, hi, rfl⟩ := mem_take_at (by omega) hx
        obtain ⟨es2, q2, g1, g2, g3⟩ := netG_joint code (t := i) (by omega)
        rw [g3]
        unfold jointG
        simp only [decide_eq_false_iff_not]
        split
        · exact fun he => nameG_ne (names18 t (by omega) i hi) he.symm
        · intro he
          have := congrArg (fun b => b.data.size) he
          simp [nameG, nameL] at this)
      rw [e2]; rfl
    · have hn : (jointG code es t q).name = ⟨#[]⟩ := by unfold jointG; exact if_neg hk
      rw [if_pos (by unfold jointG; simp only; omega), hn, ByteArray.toList_eq]
      rfl
  rw [netGood_iff]
  refine netFault0 ?_ (find_none fun i hi => ?_) (find_none fun i hi => ?_) (find_none fun i hi => ?_) (find_none fun i hi => ?_)
  · unfold tooMany
    rw [hl]
    simp only [Bool.or_eq_false_iff, beq_eq_false_iff_ne, decide_eq_false_iff_not]
    omega
  · rw [hl] at hi
    obtain ⟨k, hk⟩ := hps i hi
    have hg := genPiece_is code (pickV code 4 0) i k
    unfold badPiece
    rw [hk]
    have a : pieceB (genPiece code (pickV code 4 0) i k).1 = true := by
      have e0 : nameOk (nameG i) = true := nameOk_of _ (ok9 i (by omega))
      unfold pieceB
      rw [hg.1, e0, inB_true.2 (by omega), inB_true.2 (by omega), inB_true.2 (by omega)]
      rfl
    rw [a, hg.1]
    have b : ((netG code).pieces.take i).any (fun x => decide (x.name = nameG i)) = false := any_false (fun x hx => by
      obtain ⟨j, hj, rfl⟩ := mem_take_at (by omega) hx
      obtain ⟨k2, hk2⟩ := hps j (by omega)
      rw [hk2, (genPiece_is code (pickV code 4 0) j k2).1]
      simp only [decide_eq_false_iff_not]
      exact fun he => nameG_ne (names9 i (by omega) j hj) he.symm)
    rw [b]; rfl
  · exact jc_not3 (h3 i hi)
  · exact jc_not4 (h3 i hi) (h4 i hi)
  · rw [hl] at hi
    have hc := endsOf_count _ i hi
    have hp := genEs_perm code
    unfold badUse uses
    rw [netG_ends, hp.count_eq, hp.count_eq, hc.1, hc.2]
    rfl
/-- Where the choices of a net end. -/
theorem genJs_k (code : List Int) : (genJs code).2 ≤ 101 := by
  have h1 := jts_k code (2 * piecesN code) (genEs code).1 0 (genEs code).2 (by rw [genEs_len]; omega)
  have h2 := genEs_len code
  have h3 := piecesN_bd code
  have h4 : (genEs code).2 = (genPs code).2 + 2 * (2 * piecesN code - 1) := shuf_k ..
  have h5 : (genPs code).2 ≤ 2 + 5 * piecesN code := genPieces_k ..
  show (jts code (2 * piecesN code) (genEs code).1 0 (genEs code).2).2 ≤ 101
  omega
/-! A drawn spot, drawn lies. -/
def spotG (n : NetT) (code : List Int) : SpotT :=
  ⟨pickV code (n.pieces.length : Int) 0, wideV code (lenP n (pickV code (n.pieces.length : Int) 0) + 1) (pickK (n.pieces.length : Int) 0), 1 - 2 * pickV code 2 (pickK (n.pieces.length : Int) 0 + 2)⟩
theorem spotG_ok {n : NetT} (hg : Good n) (code : List Int) : spotB n (spotG n code) = true := by
  have a := pickV_bd code (n := (n.pieces.length : Int)) (by have := hg.p0; omega) 0
  have hl := hg.len a.1 a.2
  have b := wideV_bd code (n := lenP n (pickV code (n.pieces.length : Int) 0) + 1) (by omega) (pickK (n.pieces.length : Int) 0)
  have c := pickV_bd code (n := 2) (by omega) (pickK (n.pieces.length : Int) 0 + 2)
  rw [spotB_iff]
  unfold spotG
  simp only
  omega
def liesL (code : List Int) : List JointT → Nat → List Int
  | [], _ => []
  | j :: l, k => if j.kind = 3 then (1 + pickV code 2 k) :: liesL code l (k + 1) else 0 :: liesL code l k
def liesG (n : NetT) (code : List Int) : List Int := liesL code n.joints 0
theorem liesL_len (code : List Int) : ∀ (l : List JointT) k, (liesL code l k).length = l.length
  | [], _ => rfl
  | j :: l, k => by simp only [liesL]; split <;> simp [liesL_len code l]
theorem liesL_at (code : List Int) : ∀ (l : List JointT) k i, i < l.length → 0 ≤ (liesL code l k).getD i 0 ∧ (liesL code l k).getD i 0 ≤ 2 ∧ ((liesL code l k).getD i 0 = 0 ∨ (l.getD i default).kind = 3)
  | [], _, i, h => by simp at h
  | j :: l, k, i, h => by
    simp only [liesL]
    split
    · rename_i hj
      have c := pickV_bd code (n := 2) (by omega) k
      cases i with
      | zero => simp only [List.getD_cons_zero]; exact ⟨by omega, by omega, .inr hj⟩
      | succ i => simp only [List.getD_cons_succ]; exact liesL_at code l _ i (by simpa using h)
    · cases i with
      | zero => simp only [List.getD_cons_zero]; exact ⟨by omega, by omega, by simp⟩
      | succ i => simp only [List.getD_cons_succ]; exact liesL_at code l _ i (by simpa using h)
theorem liesG_ok (n : NetT) (code : List Int) : liesB n (liesG n code) = true := by
  rw [liesB_iff]
  exact ⟨liesL_len .., fun i hi => liesL_at code n.joints 0 i (by rwa [liesG, liesL_len] at hi)⟩
end Go.Proofs.Ytckcffjnffcjcaa
