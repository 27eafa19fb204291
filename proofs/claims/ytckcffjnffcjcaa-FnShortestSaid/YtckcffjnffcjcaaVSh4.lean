/- Texts of this work, of each what the claim leans on: Gen0, Over, Cut0, Gen1, Gen2, Gen3, Gen4. No conditions. -/
import Derived.Test.YtckcffjnffcjcaaVSh3
import Derived.Deep.DeepCutAuto
import Derived.Deep.RegionHeld3
import Derived.Deep.RegionLaw
import Derived.Lib.ConvBytes
import Derived.Outline
set_option linter.unusedVariables false
set_option linter.unusedSimpArgs false
namespace Go.Proofs.Ytckcffjnffcjcaa
open Go.RowKit Go.Proofs.YtckcffjnffcjcaaW.PrintWords
def seedW (s b : Int) : Int := IntKind.u64.wrap (IntKind.u64.wrap (IntKind.u64.wrap (s * 6364136223846793005) + b) + 1442695040888963407)
def seedE (s : Int) : Int := IntKind.u64.wrap (IntKind.u64.wrap (s * 6364136223846793005) + 1442695040888963407)
def seedAt (code : List Int) : Nat → Int
  | 0 => 0
  | k + 1 => if k < code.length then seedW (seedAt code k) (code.getD k 0) else seedE (seedAt code k)
def nx (code : List Int) (k : Nat) : Int := if k < code.length then code.getD k 0 else (seedAt code (k + 1) / 1099511627776) % 256
def GCode (code : List Int) : Prop := ∀ y ∈ code, 0 ≤ y ∧ y ≤ 255
theorem nx_bd {code : List Int} (h : GCode code) (k : Nat) : 0 ≤ nx code k ∧ nx code k ≤ 255 := by
  unfold nx
  split
  · rename_i hk
    have e : code.getD k 0 = code[k] := by rw [List.getD_eq_getElem?_getD, List.getElem?_eq_getElem hk]; rfl
    rw [e]
    exact h _ (List.getElem_mem hk)
  · omega
def pickV (code : List Int) (n : Int) (k : Nat) : Int := if n ≤ 1 then 0 else if 200 < n then (nx code k * 256 + nx code (k + 1)) % n else nx code k % n
def pickK (n : Int) (k : Nat) : Nat := if n ≤ 1 then k else if 200 < n then k + 2 else k + 1
def wideV (code : List Int) (n : Int) (k : Nat) : Int := (nx code k * 256 + nx code (k + 1)) % n
theorem pickV_bd (code : List Int) {n : Int} (h : 1 ≤ n) (k : Nat) : 0 ≤ pickV code n k ∧ pickV code n k < n := by
  unfold pickV
  split
  · omega
  · split
    · exact ⟨Int.emod_nonneg _ (by omega), Int.emod_lt_of_pos _ (by omega)⟩
    · exact ⟨Int.emod_nonneg _ (by omega), Int.emod_lt_of_pos _ (by omega)⟩
theorem wideV_bd (code : List Int) {n : Int} (h : 1 ≤ n) (k : Nat) : 0 ≤ wideV code n k ∧ wideV code n k < n :=
  ⟨Int.emod_nonneg _ (by omega), Int.emod_lt_of_pos _ (by omega)⟩
def decF : Nat → Nat → List UInt8 → List UInt8
  | 0, _, r => r
  | f + 1, n, r => if n = 0 then r else decF f (n / 10) ((48 + UInt8.ofNat (n % 10)) :: r)
def decL (n : Nat) : List UInt8 := if n = 0 then [48] else decF n n []
def nameL (i : Nat) : List UInt8 := (97 + UInt8.ofNat (i % 26)) :: decL i
def nameG (i : Nat) : ByteArray := ⟨(nameL i).toArray⟩
def genPiece (code : List Int) (small : Int) (i k : Nat) : PieceT × Nat :=
  if small = 0 then (⟨nameG i, 1 + pickV code 4 (k + 2), 1 + pickV code 200 (k + 3), 1 + pickV code 90 (k + 4)⟩, k + 5)
  else (⟨nameG i, 1 + wideV code 300 k, 1 + pickV code 200 (k + 2), 1 + pickV code 90 (k + 3)⟩, k + 4)
def genPieces (code : List Int) (small : Int) (k0 : Nat) : Nat → List PieceT × Nat
  | 0 => ([], k0)
  | i + 1 => ((genPieces code small k0 i).1 ++ [(genPiece code small i (genPieces code small k0 i).2).1], (genPiece code small i (genPieces code small k0 i).2).2)
def endsOf : Nat → List EndT
  | 0 => []
  | i + 1 => endsOf i ++ [⟨(i : Int), 0⟩, ⟨(i : Int), 1⟩]
def swapE (l : List EndT) (i k : Nat) : List EndT := (l.set i (l.getD k default)).set k (l.getD i default)
def shufJ (code : List Int) (m k : Nat) : Nat := ((m : Int) - pickV code ((m : Int) + 1) k / (1 + pickV code 3 (k + 1))).toNat
def shuf (code : List Int) : Nat → List EndT → Nat → List EndT × Nat
  | 0, l, k => (l, k)
  | m + 1, l, k => shuf code m (swapE l (m + 1) (shufJ code (m + 1) k)) (k + 2)
def kindTab : List Int := [1, 2, 2, 3, 3, 3, 4]
def kindG (code : List Int) (left k : Nat) : Nat := if (left : Int) < kindTab.getD (pickV code 7 k).toNat 0 then 1 else (kindTab.getD (pickV code 7 k).toNat 0).toNat
def jointG (code : List Int) (ends : List EndT) (m k : Nat) : JointT :=
  ⟨(kindG code ends.length k : Int), if 3 ≤ kindG code ends.length k then nameG (100 + m) else ⟨#[]⟩, ends.take (kindG code ends.length k)⟩
def jts (code : List Int) : Nat → List EndT → Nat → Nat → List JointT × Nat
  | 0, _, _, k => ([], k)
  | f + 1, ends, m, k => if ends = [] then ([], k) else
    (jointG code ends m k :: (jts code f (ends.drop (kindG code ends.length k)) (m + 1) (k + 1)).1, (jts code f (ends.drop (kindG code ends.length k)) (m + 1) (k + 1)).2)
def piecesN (code : List Int) : Nat := (1 + pickV code 9 1).toNat
def genPs (code : List Int) : List PieceT × Nat := genPieces code (pickV code 4 0) 2 (piecesN code)
def genEs (code : List Int) : List EndT × Nat := shuf code (2 * piecesN code - 1) (endsOf (piecesN code)) (genPs code).2
def genJs (code : List Int) : List JointT × Nat := jts code (2 * piecesN code) (genEs code).1 0 (genEs code).2
def netG (code : List Int) : NetT := ⟨(genPs code).1, (genJs code).1⟩
theorem piecesN_bd (code : List Int) : 1 ≤ piecesN code ∧ piecesN code ≤ 9 := by
  have := pickV_bd code (n := 9) (by omega) 1
  unfold piecesN; omega
theorem genPieces_len (code : List Int) (small : Int) (k0 : Nat) : ∀ i, (genPieces code small k0 i).1.length = i
  | 0 => rfl
  | i + 1 => by
    have := genPieces_len code small k0 i
    simp [genPieces, this]
theorem genPiece_is (code : List Int) (small : Int) (i k : Nat) : (genPiece code small i k).1.name = nameG i ∧ 1 ≤ (genPiece code small i k).1.len ∧ (genPiece code small i k).1.len ≤ 300 ∧ 1 ≤ (genPiece code small i k).1.speed ∧ (genPiece code small i k).1.speed ≤ 200 ∧ 1 ≤ (genPiece code small i k).1.brake ∧ (genPiece code small i k).1.brake ≤ 90 ∧ (genPiece code small i k).2 ≤ k + 5 := by
  unfold genPiece
  split
  · have a := pickV_bd code (n := 4) (by omega) (k + 2)
    have b := pickV_bd code (n := 200) (by omega) (k + 3)
    have c := pickV_bd code (n := 90) (by omega) (k + 4)
    refine ⟨rfl, ?_⟩
    simp only
    omega
  · have a := wideV_bd code (n := 300) (by omega) k
    have b := pickV_bd code (n := 200) (by omega) (k + 2)
    have c := pickV_bd code (n := 90) (by omega) (k + 3)
    refine ⟨rfl, ?_⟩
    simp only
    omega
theorem genPieces_at (code : List Int) (small : Int) (k0 : Nat) : ∀ m i, i < m → ∃ k, (genPieces code small k0 m).1.getD i default = (genPiece code small i k).1
  | 0, _, h => absurd h (by omega)
  | m + 1, i, h => by
    have hl := genPieces_len code small k0 m
    by_cases hi : i < m
    · obtain ⟨k, hk⟩ := genPieces_at code small k0 m i hi
      refine ⟨k, ?_⟩
      rw [← hk]
      simp only [genPieces, List.getD_eq_getElem?_getD]
      rw [List.getElem?_append_left (by omega)]
    · have e : i = m := by omega
      subst e
      refine ⟨(genPieces code small k0 i).2, ?_⟩
      simp only [genPieces, List.getD_eq_getElem?_getD]
      rw [List.getElem?_append_right (by omega), hl, Nat.sub_self]
      rfl
theorem genPieces_k (code : List Int) (small : Int) (k0 : Nat) : ∀ i, (genPieces code small k0 i).2 ≤ k0 + 5 * i
  | 0 => by simp [genPieces]
  | i + 1 => by
    have := genPieces_k code small k0 i
    have h2 := (genPiece_is code small i (genPieces code small k0 i).2).2.2.2.2.2.2.2
    simp only [genPieces]
    omega
def nameEqB (i k : Nat) : Bool := nameL i == nameL k
theorem nameG_ne {i k : Nat} (h : nameEqB i k = false) : nameG i ≠ nameG k := by
  intro he
  have : nameL i = nameL k := by
    have := congrArg (fun b => b.data.toList) he
    simpa [nameG] using this
  unfold nameEqB at h
  rw [this] at h
  simp at h
theorem names9 : ∀ i, i < 9 → ∀ k, k < i → nameEqB i k = false := by decide
theorem names18 : ∀ i, i < 18 → ∀ k, k < i → nameEqB (100 + i) (100 + k) = false := by decide
def nameOkL (l : List UInt8) : Bool := (l.map (fun c => (c.toNat : Int))).all nameByte && decide (1 ≤ l.length ∧ l.length ≤ 20)
theorem nameOk_of (l : List UInt8) (h : nameOkL l = true) : nameOk ⟨l.toArray⟩ = true := by
  have e : (⟨l.toArray⟩ : ByteArray).size = l.length := by show l.toArray.size = _; simp
  unfold nameOk bs
  rw [e]
  unfold nameOkL at h
  simpa using h
theorem ok9 : ∀ i, i < 9 → nameOkL (nameL i) = true := by decide
theorem ok18 : ∀ i, i < 18 → nameOkL (nameL (100 + i)) = true := by decide
theorem endsOf_len : ∀ m, (endsOf m).length = 2 * m
  | 0 => rfl
  | m + 1 => by have := endsOf_len m; simp [endsOf, this]; omega
theorem endsOf_mem : ∀ m (e : EndT), e ∈ endsOf m → 0 ≤ e.piece ∧ e.piece < (m : Int) ∧ 0 ≤ e.side ∧ e.side ≤ 1
  | 0, e, h => by simp [endsOf] at h
  | m + 1, e, h => by
    simp only [endsOf, List.mem_append, List.mem_cons, List.not_mem_nil, or_false] at h
    rcases h with h | rfl | rfl
    · have := endsOf_mem m e h; omega
    · simp only; omega
    · simp only; omega
theorem endsOf_count : ∀ m i, i < m → (endsOf m).count ⟨(i : Int), 0⟩ = 1 ∧ (endsOf m).count ⟨(i : Int), 1⟩ = 1
  | 0, _, h => absurd h (by omega)
  | m + 1, i, h => by
    simp only [endsOf, List.count_append, List.count_cons, List.count_nil]
    by_cases hi : i < m
    · have := endsOf_count m i hi
      have h1 : (m : Int) ≠ (i : Int) := by omega
      have e : ∀ a b : Int, ((⟨(m : Int), a⟩ : EndT) == ⟨(i : Int), b⟩) = false := fun a b => by
        simp only [beq_eq_false_iff_ne, ne_eq, EndT.mk.injEq, h1, false_and, not_false_eq_true]
      rw [this.1, this.2, e, e, e, e]
      simp
    · have e : i = m := by omega
      subst e
      have hz : ∀ s : Int, (endsOf i).count ⟨(i : Int), s⟩ = 0 := fun s => List.count_eq_zero_of_not_mem (fun hm => by have := (endsOf_mem i _ hm).2.1; simp only at this; omega)
      rw [hz, hz]
      simp
theorem swapE_len (l : List EndT) (i k : Nat) : (swapE l i k).length = l.length := by unfold swapE; simp
theorem swapE_perm (l : List EndT) {i k : Nat} (hi : i < l.length) (hk : k < l.length) : (swapE l i k).Perm l := by
  have h := Array.swap_perm (xs := l.toArray) (i := i) (j := k) (by simpa using hi) (by simpa using hk)
  have h2 := h.toList
  have e : (l.toArray.swap i k (by simpa using hi) (by simpa using hk)).toList = swapE l i k := by
    unfold swapE
    rw [getD_at l k hk, getD_at l i hi]
    simp [Array.swap]
  rw [e] at h2
  simpa using h2
theorem shufJ_lt (code : List Int) (m k : Nat) : shufJ code m k ≤ m := by
  have a := pickV_bd code (n := (m : Int) + 1) (by omega) k
  have b := pickV_bd code (n := 3) (by omega) (k + 1)
  have c : 0 ≤ pickV code ((m : Int) + 1) k / (1 + pickV code 3 (k + 1)) := Int.ediv_nonneg a.1 (by omega)
  unfold shufJ
  omega
theorem shuf_perm (code : List Int) : ∀ m (l : List EndT) k, m < l.length ∨ m = 0 → (shuf code m l k).1.Perm l
  | 0, l, k, _ => List.Perm.refl _
  | m + 1, l, k, h => by
    have hj := shufJ_lt code (m + 1) k
    have hm : m + 1 < l.length := by omega
    simp only [shuf]
    refine (shuf_perm code m _ _ (.inl (by rw [swapE_len]; omega))).trans (swapE_perm l hm (by omega))
theorem kindTab_at : ∀ p, p < 7 → 1 ≤ kindTab.getD p 0 ∧ kindTab.getD p 0 ≤ 4 := by decide
theorem kindG_bd (code : List Int) {left : Nat} (h : 0 < left) (k : Nat) : 1 ≤ kindG code left k ∧ kindG code left k ≤ 4 ∧ kindG code left k ≤ left := by
  have a := pickV_bd code (n := 7) (by omega) k
  have b := kindTab_at (pickV code 7 k).toNat (by omega)
  unfold kindG
  split <;> omega
theorem jts_flat (code : List Int) : ∀ f (ends : List EndT) m k, ends.length ≤ f → (jts code f ends m k).1.flatMap (·.ends) = ends
  | 0, ends, m, k, h => by
    have : ends = [] := List.length_eq_zero_iff.1 (by omega)
    subst this; rfl
  | f + 1, ends, m, k, h => by
    simp only [jts]
    split
    · rename_i he; subst he; rfl
    · rename_i he
      have hp : 0 < ends.length := List.length_pos_iff.2 he
      have hk := kindG_bd code hp k
      simp only [List.flatMap_cons]
      rw [jts_flat code f _ _ _ (by rw [List.length_drop]; omega)]
      unfold jointG
      exact List.take_append_drop _ _
theorem jts_len (code : List Int) : ∀ f (ends : List EndT) m k, ends.length ≤ f → (jts code f ends m k).1.length ≤ ends.length
  | 0, ends, m, k, h => by simp [jts]
  | f + 1, ends, m, k, h => by
    simp only [jts]
    split
    · simp
    · rename_i he
      have hp : 0 < ends.length := List.length_pos_iff.2 he
      have hk := kindG_bd code hp k
      have := jts_len code f (ends.drop (kindG code ends.length k)) (m + 1) (k + 1) (by rw [List.length_drop]; omega)
      rw [List.length_drop] at this
      simp only [List.length_cons]
      omega
theorem jts_at (code : List Int) : ∀ f (ends : List EndT) m k t, t < (jts code f ends m k).1.length → ∃ es q, es ≠ [] ∧ (∀ e ∈ es, e ∈ ends) ∧ (jts code f ends m k).1.getD t default = jointG code es (m + t) q
  | 0, ends, m, k, t, h => by simp [jts] at h
  | f + 1, ends, m, k, t, h => by
    simp only [jts] at h ⊢
    split
    · rename_i he; rw [if_pos he] at h; simp at h
    · rename_i he
      rw [if_neg he] at h
      cases t with
      | zero => exact ⟨ends, k, he, fun _ h => h, rfl⟩
      | succ t =>
        simp only [List.length_cons] at h
        obtain ⟨es, q, h1, h2, h3⟩ := jts_at code f (ends.drop (kindG code ends.length k)) (m + 1) (k + 1) t (by omega)
        refine ⟨es, q, h1, fun e he => List.mem_of_mem_drop (h2 e he), ?_⟩
        rw [List.getD_cons_succ, h3]
        congr 1
        omega
theorem genPs_len (code : List Int) : (genPs code).1.length = piecesN code := genPieces_len ..
theorem genEs_perm (code : List Int) : (genEs code).1.Perm (endsOf (piecesN code)) := by
  have := piecesN_bd code
  exact shuf_perm code _ _ _ (.inl (by rw [endsOf_len]; omega))
theorem genEs_len (code : List Int) : (genEs code).1.length = 2 * piecesN code := by rw [(genEs_perm code).length_eq, endsOf_len]
theorem netG_ends (code : List Int) : allEnds (netG code) = (genEs code).1 := by
  unfold allEnds netG genJs
  exact jts_flat code _ _ _ _ (by rw [genEs_len]; omega)
theorem netG_joints (code : List Int) : (netG code).joints.length ≤ 18 := by
  have h := jts_len code (2 * piecesN code) (genEs code).1 0 (genEs code).2 (by rw [genEs_len]; omega)
  have h2 := genEs_len code
  have h3 := piecesN_bd code
  show (jts code (2 * piecesN code) (genEs code).1 0 (genEs code).2).1.length ≤ 18
  omega
theorem netG_joint (code : List Int) {t : Nat} (h : t < (netG code).joints.length) : ∃ es q, es ≠ [] ∧ (∀ e ∈ es, e ∈ (genEs code).1) ∧ (netG code).joints.getD t default = jointG code es t q := by
  obtain ⟨es, q, h1, h2, h3⟩ := jts_at code (2 * piecesN code) (genEs code).1 0 (genEs code).2 t h
  rw [Nat.zero_add] at h3
  exact ⟨es, q, h1, h2, h3⟩
theorem netG_end (code : List Int) {e : EndT} (h : e ∈ (genEs code).1) : endB (netG code) e = true := by
  have := endsOf_mem _ _ ((genEs_perm code).mem_iff.1 h)
  rw [endB_iff]
  have hl : (netG code).pieces.length = piecesN code := genPs_len code
  rw [hl]
  omega
theorem any_false {α : Type} {l : List α} {p : α → Bool} (h : ∀ x ∈ l, p x = false) : l.any p = false := by
  rw [List.any_eq_false]
  intro x hx
  rw [h x hx]; simp
theorem mem_take_at {α : Type} [Inhabited α] {l : List α} {i : Nat} (hi : i ≤ l.length) {x : α} (h : x ∈ l.take i) : ∃ k, k < i ∧ l.getD k default = x := by
  obtain ⟨k, hk, he⟩ := List.getElem_of_mem h
  rw [List.length_take] at hk
  refine ⟨k, by omega, ?_⟩
  rw [getD_at l k (by omega), ← he]
  simp
theorem netG_good (code : List Int) : netGood (netG code) = true := by
  have hP := piecesN_bd code
  have hl : (netG code).pieces.length = piecesN code := genPs_len code
  have hJ := netG_joints code
  have hps : ∀ i, i < piecesN code → ∃ k, (netG code).pieces.getD i default = (genPiece code (pickV code 4 0) i k).1 := fun i hi => genPieces_at code _ _ _ _ hi
  have h3 : ∀ t, t < (netG code).joints.length → j3 (netG code) ((netG code).joints.getD t default) = false := fun t ht => by
    obtain ⟨es, q, h1, h2, h3⟩ := netG_joint code ht
    have hp : 0 < es.length := List.length_pos_iff.2 h1
    have hk := kindG_bd code hp q
    rw [h3]
    unfold j3
    have a : inB (jointG code es t q).kind 1 4 = true := inB_true.2 (by unfold jointG; simp only; omega)
    have b : (((jointG code es t q).ends.length : Int) != (jointG code es t q).kind) = false := by
      unfold jointG; simp only [bne_eq_false_iff_eq, List.length_take]; omega
    have c : ((jointG code es t q).ends.any (fun e => !endB (netG code) e)) = false := any_false (fun e he => by
      rw [netG_end code (h2 e (List.mem_of_mem_take (by unfold jointG at he; exact he)))]; rfl)
    rw [a, b, c]; rfl
  have h4 : ∀ t, t < (netG code).joints.length → j4 (netG code) t ((netG code).joints.getD t default) = false := fun t ht => by
    obtain ⟨es, q, h1, h2, h3⟩ := netG_joint code ht
    rw [h3]
    unfold j4
    by_cases hk : 3 ≤ kindG code es.length q
    · have hn : (jointG code es t q).name = nameG (100 + t) := by unfold jointG; exact if_pos hk
      rw [if_neg (by unfold jointG; simp only; omega), hn]
      have e1 : nameOk (nameG (100 + t)) = true := nameOk_of _ (ok18 t (by omega))
      rw [e1]
      have e2 : ((netG code).joints.take t).any (fun x => decide (x.name = nameG (100 + t))) = false := any_false (fun x hx => by
        obtain ⟨i, hi, rfl⟩ := mem_take_at (by omega) hx
        obtain ⟨es2, q2, g1, g2, g3⟩ := netG_joint code (t := i) (by omega)
        rw [g3]
        unfold jointG
        simp only [decide_eq_false_iff_not]
        split
        · exact fun he => nameG_ne (names18 t (by omega) i hi) he.symm
        · intro he
          have := congrArg (fun b => b.data.size) he
          simp [nameG, nameL] at this)
      rw [e2]; rfl
    · have hn : (jointG code es t q).name = ⟨#[]⟩ := by unfold jointG; exact if_neg hk
      rw [if_pos (by unfold jointG; simp only; omega), hn, ByteArray.toList_eq]
      rfl
  rw [netGood_iff]
  refine netFault0 ?_ (find_none fun i hi => ?_) (find_none fun i hi => ?_) (find_none fun i hi => ?_) (find_none fun i hi => ?_)
  · unfold tooMany
    rw [hl]
    simp only [Bool.or_eq_false_iff, beq_eq_false_iff_ne, decide_eq_false_iff_not]
    omega
  · rw [hl] at hi
    obtain ⟨k, hk⟩ := hps i hi
    have hg := genPiece_is code (pickV code 4 0) i k
    unfold badPiece
    rw [hk]
    have a : pieceB (genPiece code (pickV code 4 0) i k).1 = true := by
      have e0 : nameOk (nameG i) = true := nameOk_of _ (ok9 i (by omega))
      unfold pieceB
      rw [hg.1, e0, inB_true.2 (by omega), inB_true.2 (by omega), inB_true.2 (by omega)]
      rfl
    rw [a, hg.1]
    have b : ((netG code).pieces.take i).any (fun x => decide (x.name = nameG i)) = false := any_false (fun x hx => by
      obtain ⟨j, hj, rfl⟩ := mem_take_at (by omega) hx
      obtain ⟨k2, hk2⟩ := hps j (by omega)
      rw [hk2, (genPiece_is code (pickV code 4 0) j k2).1]
      simp only [decide_eq_false_iff_not]
      exact fun he => nameG_ne (names9 i (by omega) j hj) he.symm)
    rw [b]; rfl
  · exact jc_not3 (h3 i hi)
  · exact jc_not4 (h3 i hi) (h4 i hi)
  · rw [hl] at hi
    have hc := endsOf_count _ i hi
    have hp := genEs_perm code
    unfold badUse uses
    rw [netG_ends, hp.count_eq, hp.count_eq, hc.1, hc.2]
    rfl
def spotG (n : NetT) (code : List Int) : SpotT :=
  ⟨pickV code (n.pieces.length : Int) 0, wideV code (lenP n (pickV code (n.pieces.length : Int) 0) + 1) (pickK (n.pieces.length : Int) 0), 1 - 2 * pickV code 2 (pickK (n.pieces.length : Int) 0 + 2)⟩
theorem spotG_ok {n : NetT} (hg : Good n) (code : List Int) : spotB n (spotG n code) = true := by
  have a := pickV_bd code (n := (n.pieces.length : Int)) (by have := hg.p0; omega) 0
  have hl := hg.len a.1 a.2
  have b := wideV_bd code (n := lenP n (pickV code (n.pieces.length : Int) 0) + 1) (by omega) (pickK (n.pieces.length : Int) 0)
  have c := pickV_bd code (n := 2) (by omega) (pickK (n.pieces.length : Int) 0 + 2)
  rw [spotB_iff]
  unfold spotG
  simp only
  omega
def liesL (code : List Int) : List JointT → Nat → List Int
  | [], _ => []
  | j :: l, k => if j.kind = 3 then (1 + pickV code 2 k) :: liesL code l (k + 1) else 0 :: liesL code l k
def liesG (n : NetT) (code : List Int) : List Int := liesL code n.joints 0
theorem liesL_len (code : List Int) : ∀ (l : List JointT) k, (liesL code l k).length = l.length
  | [], _ => rfl
  | j :: l, k => by simp only [liesL]; split <;> simp [liesL_len code l]
theorem liesL_at (code : List Int) : ∀ (l : List JointT) k i, i < l.length → 0 ≤ (liesL code l k).getD i 0 ∧ (liesL code l k).getD i 0 ≤ 2 ∧ ((liesL code l k).getD i 0 = 0 ∨ (l.getD i default).kind = 3)
  | [], _, i, h => by simp at h
  | j :: l, k, i, h => by
    simp only [liesL]
    split
    · rename_i hj
      have c := pickV_bd code (n := 2) (by omega) k
      cases i with
      | zero => simp only [List.getD_cons_zero]; exact ⟨by omega, by omega, .inr hj⟩
      | succ i => simp only [List.getD_cons_succ]; exact liesL_at code l _ i (by simpa using h)
    · cases i with
      | zero => simp only [List.getD_cons_zero]; exact ⟨by omega, by omega, by simp⟩
      | succ i => simp only [List.getD_cons_succ]; exact liesL_at code l _ i (by simpa using h)
theorem liesG_ok (n : NetT) (code : List Int) : liesB n (liesG n code) = true := by
  rw [liesB_iff]
  exact ⟨liesL_len .., fun i hi => liesL_at code n.joints 0 i (by rwa [liesG, liesL_len] at hi)⟩
end Go.Proofs.Ytckcffjnffcjcaa
namespace Go.Proofs.Ytckcffjnffcjcaa
open Go.RowKit Go.Proofs.YtckcffjnffcjcaaW.PrintWords
theorem box2 (w : World) (a b : List Value) (s t : TypeId) : ∃ W0, W0 = (w.alloc (.cells a.toArray s)).alloc (.cells b.toArray t) ∧ Bx W0 w.heap.size a ∧ Bx W0 (w.heap.size + 1) b ∧ Below w.heap.size w W0 ∧ W0.heap.size = w.heap.size + 2 := by
  refine ⟨_, rfl, (Bx.new w a s).alloc _, ?_, below_two _ _ _, by simp⟩
  have := Bx.new (w.alloc (.cells a.toArray s)) b t
  simpa using this
theorem R_lits {α : Type} (d : Kd α) (W : World) (e : Nat) {xs : List α} {inner : List Value} (hrep : Reps (fun x c => ∀ w base ok, d.M w base ok x c) d.sz xs inner) (hm : xs.length ≤ 9223372036854775807) {base : Nat} (hb : base ≤ W.heap.size) :
    d.R e (W.alloc (.cells inner.toArray e)) base (fun _ => True) (.slice (some ⟨W.heap.size, 0, none⟩) xs.length xs.length) xs := by
  refine ⟨fun _ _ => trivial, inner, ?_, hrep.imp_ fun p c h => h _ _ _⟩
  have h2 := World.ownsRow_lit (base := base) (e := e) (size := d.sz) W inner.toArray xs.length hb (by simpa [maxLen] using hm) (by simpa using hrep.1)
  simpa using h2
theorem R_end1 (W : World) (x : EndT) {base g : Nat} (hg : g = W.heap.size) (hb : base ≤ W.heap.size) : kEnd.R 67 (W.alloc (.cells #[.int .i64 x.piece, .int .i64 x.side] 67)) base (fun _ => True) (.slice (some ⟨g, 0, none⟩) 1 1) [x] := by
  subst hg
  exact R_lits kEnd W 67 (xs := [x]) (inner := [.int .i64 x.piece, .int .i64 x.side]) (by
    have := (Reps.none (fun (x : EndT) c => ∀ w base ok, kEnd.M w base ok x c) 2).snoc (p := x) (c := [.int .i64 x.piece, .int .i64 x.side]) (fun w base ok => kEnd_mkM w base ok x) rfl
    exact this) (by simp) hb
theorem R_end2 (W : World) (x y : EndT) {base g : Nat} (hg : g = W.heap.size) (hb : base ≤ W.heap.size) : kEnd.R 67 (W.alloc (.cells #[.int .i64 x.piece, .int .i64 x.side, .int .i64 y.piece, .int .i64 y.side] 67)) base (fun _ => True) (.slice (some ⟨g, 0, none⟩) 2 2) [x, y] := by
  subst hg
  exact R_lits kEnd W 67 (xs := [x, y]) (inner := [.int .i64 x.piece, .int .i64 x.side, .int .i64 y.piece, .int .i64 y.side]) (by
    have := ((Reps.none (fun (x : EndT) c => ∀ w base ok, kEnd.M w base ok x c) 2).snoc (p := x) (c := [.int .i64 x.piece, .int .i64 x.side]) (fun w base ok => kEnd_mkM w base ok x) rfl).snoc (p := y) (c := [.int .i64 y.piece, .int .i64 y.side]) (fun w base ok => kEnd_mkM w base ok y) rfl
    exact this) (by simp) hb
theorem R_int1 (W : World) (x : Int) {base g : Nat} (hg : g = W.heap.size) (hb : base ≤ W.heap.size) : (Kd.int .i64).R 3 (W.alloc (.cells #[.int .i64 x] 3)) base (fun _ => True) (.slice (some ⟨g, 0, none⟩) 1 1) [x] := by
  subst hg
  exact R_lits (Kd.int .i64) W 3 (xs := [x]) (inner := [.int .i64 x]) (by
    have := (Reps.none (fun (x : Int) c => ∀ w base ok, (Kd.int .i64).M w base ok x c) 1).snoc (p := x) (c := [.int .i64 x]) (fun w base ok => rfl) rfl
    exact this) (by simp) hb
theorem R_int2 (W : World) (x y : Int) {base g : Nat} (hg : g = W.heap.size) (hb : base ≤ W.heap.size) : (Kd.int .i64).R 3 (W.alloc (.cells #[.int .i64 x, .int .i64 y] 3)) base (fun _ => True) (.slice (some ⟨g, 0, none⟩) 2 2) [x, y] := by
  subst hg
  exact R_lits (Kd.int .i64) W 3 (xs := [x, y]) (inner := [.int .i64 x, .int .i64 y]) (by
    have := ((Reps.none (fun (x : Int) c => ∀ w base ok, (Kd.int .i64).M w base ok x c) 1).snoc (p := x) (c := [.int .i64 x]) (fun w base ok => rfl) rfl).snoc (p := y) (c := [.int .i64 y]) (fun w base ok => rfl) rfl
    exact this) (by simp) hb
def acrossG (n : NetT) (e : EndT) : List EndT := if (atEnd n e).1 < 0 then [] else acrossE n e
def howG (n : NetT) (e : EndT) : List Int := if (atEnd n e).1 < 0 then [] else howJ (jOf n e) (kOf n e)
theorem acrossG_at {n : NetT} {e : EndT} {i q : Nat} (h : AtIs n e i q) : acrossG n e = acrossJ (n.joints.getD i default) q ∧ howG n e = howJ (n.joints.getD i default) q := by
  unfold acrossG howG acrossE
  rw [h.eq, if_neg (by simp), if_neg (by simp), h.j, h.k]
  exact ⟨rfl, rfl⟩
theorem acrossG_none {n : NetT} {e : EndT} (h : atEnd n e = (-1, -1)) : acrossG n e = [] ∧ howG n e = [] := by
  unfold acrossG howG
  rw [h]
  exact ⟨if_pos (by decide), if_pos (by decide)⟩
theorem acrossG_ok {n : NetT} (hg : Good n) {e : EndT} (he : endB n e = true) : acrossG n e = acrossE n e := by
  obtain ⟨i, q, h⟩ := hg.at_ he
  rw [(acrossG_at h).1]
  unfold acrossE
  rw [h.j, h.k]
theorem aJ1 {j : JointT} {q : Nat} (h : j.kind = 1) : acrossJ j q = [] ∧ howJ j q = [] := by unfold acrossJ howJ; simp [h]
theorem aJ2 {j : JointT} {q : Nat} (h : j.kind = 2) : acrossJ j q = [j.ends.getD (1 - q) default] ∧ howJ j q = [0] := by unfold acrossJ howJ; simp [h]
theorem aJ30 {j : JointT} (h : j.kind = 3) : acrossJ j 0 = [j.ends.getD 1 default, j.ends.getD 2 default] ∧ howJ j 0 = [1, 2] := by unfold acrossJ howJ; simp [h]
theorem aJ3 {j : JointT} {q : Nat} (h : j.kind = 3) (hq : q ≠ 0) : acrossJ j q = [j.ends.getD 0 default] ∧ howJ j q = [(q : Int)] := by unfold acrossJ howJ; simp [h, hq]
theorem aJ4 {j : JointT} {q : Nat} (h : j.kind = 4) : acrossJ j q = [j.ends.getD (cross4 q) default] ∧ howJ j q = [0] := by unfold acrossJ howJ; simp [h]
theorem end0 {w : World} {A : Option Addr} {n : Nat} {l : List EndT} (h : Kd.C kEnd w A n l) {ad : Addr} (hA : A = some ad) (hn : 0 < n) : w.cell? ad = some (.int .i64 (l.getD 0 default).piece) ∧ w.cell? ⟨ad.block, ad.off + 1, none⟩ = some (.int .i64 (l.getD 0 default).side) := by
  obtain ⟨ad', e, h1, h2⟩ := at_End h 0 hn
  rw [hA] at e
  injection e with e
  subst e
  exact ⟨by simpa [Addr.add] using h1, by simpa [Addr.add] using h2⟩
theorem end1 {w : World} {A : Option Addr} {n : Nat} {l : List EndT} (h : Kd.C kEnd w A n l) {ad : Addr} (hA : A = some ad) (hn : 1 < n) : w.cell? ⟨ad.block, ad.off + 2, none⟩ = some (.int .i64 (l.getD 1 default).piece) ∧ w.cell? ⟨ad.block, ad.off + 3, none⟩ = some (.int .i64 (l.getD 1 default).side) := by
  obtain ⟨ad', e, h1, h2⟩ := at_End h 1 hn
  rw [hA] at e
  injection e with e
  subst e
  exact ⟨by simpa [Addr.add] using h1, by simpa [Addr.add] using h2⟩
theorem end2 {w : World} {A : Option Addr} {n : Nat} {l : List EndT} (h : Kd.C kEnd w A n l) {ad : Addr} (hA : A = some ad) (hn : 2 < n) : w.cell? ⟨ad.block, ad.off + 4, none⟩ = some (.int .i64 (l.getD 2 default).piece) ∧ w.cell? ⟨ad.block, ad.off + 5, none⟩ = some (.int .i64 (l.getD 2 default).side) := by
  obtain ⟨ad', e, h1, h2⟩ := at_End h 2 hn
  rw [hA] at e
  injection e with e
  subst e
  exact ⟨by simpa [Addr.add] using h1, by simpa [Addr.add] using h2⟩
theorem end3 {w : World} {A : Option Addr} {n : Nat} {l : List EndT} (h : Kd.C kEnd w A n l) {ad : Addr} (hA : A = some ad) (hn : 3 < n) : w.cell? ⟨ad.block, ad.off + 6, none⟩ = some (.int .i64 (l.getD 3 default).piece) ∧ w.cell? ⟨ad.block, ad.off + 7, none⟩ = some (.int .i64 (l.getD 3 default).side) := by
  obtain ⟨ad', e, h1, h2⟩ := at_End h 3 hn
  rw [hA] at e
  injection e with e
  subst e
  exact ⟨by simpa [Addr.add] using h1, by simpa [Addr.add] using h2⟩
theorem C_some {α : Type} {d : Kd α} {w : World} {A : Option Addr} {n : Nat} {l : List α} (h : Kd.C d w A n l) (hn : 0 < n) : ∃ ad, A = some ad := by
  obtain ⟨_, _, h3⟩ := h
  obtain ⟨ad, e, _⟩ := h3 hn
  exact ⟨ad, e⟩
set_option maxRecDepth 100000 in
set_option maxHeartbeats 2000000 in
theorem l1across_any (j : JointT) (A : Option Addr) (c : Nat) (q : Nat) (w : World) (hr : Kd.C kEnd w A j.ends.length j.ends) (hk : (j.ends.length : Int) = j.kind) (hq : q < j.ends.length) (hk4 : j.kind ≤ 4) :
    Calls Try.prog 135 #[.agg #[.int .i64 j.kind, .string j.name, .slice A j.ends.length c], .int .i64 q] w
      fun e w' => ∃ v, e = .returned v ∧ Kd.R kEnd 67 w' w.heap.size (fun _ => True) v (acrossJ j q) ∧ Below w.heap.size w w' := by
  obtain ⟨jk, jn, je⟩ := j
  simp only at hk hq hk4 hr ⊢
  obtain ⟨ad, rfl⟩ := C_some hr (by omega)
  obtain ⟨W1, hW1⟩ : ∃ W1, W1 = w.alloc (.cells #[.int .i64 jk, .string jn, .slice (some ad) je.length c] 139) := ⟨_, rfl⟩
  have HR := Aside0.mk (show Kd.C kEnd W1 (some ad) je.length je by rw [hW1]; exact Kd.C_below hr (below_alloc (Below.refl _ _) _))
  have fb := Aside0.mk (show Below w.heap.size w W1 by rw [hW1]; exact below_alloc (Below.refl _ _) _)
  have HW := Aside0.mk hW1
  clear hr hW1
  have hk1 : jk = 1 ∨ jk = 2 ∨ jk = 3 ∨ jk = 4 := by omega
  rcases hk1 with rfl | rfl | rfl | rfl
  · have HA := Aside0.mk (aJ1 (j := ⟨1, jn, je⟩) (q := q) rfl).1
    go_enter Try.func135, Try.ntmps135
    go_wp2
    go_ret
    exact ⟨_, rfl, by rw [HA.out]; exact Kd.R_nil .., below_alloc (Below.refl _ _) _⟩
  · have hl : je.length = 2 := by omega
    rw [hl] at HR HW ⊢
    have hqc : q = 0 ∨ q = 1 := by omega
    clear hk hq hk4
    rcases hqc with rfl | rfl
    ·
      have HA := Aside0.mk (aJ2 (j := ⟨2, jn, je⟩) (q := 0) rfl).1
      obtain ⟨y0, y1⟩ := end1 HR.out (ad := ad) rfl (by omega)
      obtain ⟨p, hp⟩ : ∃ p, p = je.getD 1 default := ⟨_, rfl⟩
      rw [← hp] at y0 y1
      have HA2 : Aside0 (acrossJ ⟨2, jn, je⟩ 0 = [p]) := ⟨by rw [HA.out, hp]; try rfl⟩
      clear hp HA
      rw [HW.out] at y0 y1
      go_enter Try.func135, Try.ntmps135
      go_wp2
      all_goals
        go_ret
        refine ⟨_, rfl, ?_, ?_⟩
        · rw [HA2.out]
          exact R_end1 _ p (by simp) (by simp; try omega)
        · repeat (first | (with_reducible exact Below.refl _ _) | (with_reducible exact fb.out) | (with_reducible refine below_drew ?_) | (with_reducible refine below_drewN' ?_ _) | (with_reducible refine below_alloc ?_ _))
    ·
      have HA := Aside0.mk (aJ2 (j := ⟨2, jn, je⟩) (q := 1) rfl).1
      obtain ⟨y0, y1⟩ := end0 HR.out (ad := ad) rfl (by omega)
      obtain ⟨p, hp⟩ : ∃ p, p = je.getD 0 default := ⟨_, rfl⟩
      rw [← hp] at y0 y1
      have HA2 : Aside0 (acrossJ ⟨2, jn, je⟩ 1 = [p]) := ⟨by rw [HA.out, hp]; try rfl⟩
      clear hp HA
      rw [HW.out] at y0 y1
      go_enter Try.func135, Try.ntmps135
      go_wp2
      all_goals
        go_ret
        refine ⟨_, rfl, ?_, ?_⟩
        · rw [HA2.out]
          exact R_end1 _ p (by simp) (by simp; try omega)
        · repeat (first | (with_reducible exact Below.refl _ _) | (with_reducible exact fb.out) | (with_reducible refine below_drew ?_) | (with_reducible refine below_drewN' ?_ _) | (with_reducible refine below_alloc ?_ _))
  · have hl : je.length = 3 := by omega
    rw [hl] at HR HW ⊢
    have hqc : q = 0 ∨ q = 1 ∨ q = 2 := by omega
    clear hk hq hk4
    rcases hqc with rfl | rfl | rfl
    · have HA := Aside0.mk (aJ30 (j := ⟨3, jn, je⟩) rfl).1
      obtain ⟨y0, y1⟩ := end1 HR.out (ad := ad) rfl (by omega)
      obtain ⟨z0, z1⟩ := end2 HR.out (ad := ad) rfl (by omega)
      obtain ⟨p, hp⟩ : ∃ p, p = je.getD 1 default := ⟨_, rfl⟩
      obtain ⟨p', hp'⟩ : ∃ p, p = je.getD 2 default := ⟨_, rfl⟩
      rw [← hp] at y0 y1
      rw [← hp'] at z0 z1
      have HA2 : Aside0 (acrossJ ⟨3, jn, je⟩ 0 = [p, p']) := ⟨by rw [HA.out, hp, hp']⟩
      clear hp hp' HA
      rw [HW.out] at y0 y1 z0 z1
      go_enter Try.func135, Try.ntmps135
      go_wp2
      go_region
      all_goals try go_wp2
      all_goals
        go_ret
        refine ⟨_, rfl, ?_, ?_⟩
        · rw [HA2.out]
          exact R_end2 _ p p' (by simp) (by simp; try omega)
        · repeat (first | (with_reducible exact Below.refl _ _) | (with_reducible exact fb.out) | (with_reducible refine below_drew ?_) | (with_reducible refine below_drewN' ?_ _) | (with_reducible refine below_alloc ?_ _))
    ·
      have HA := Aside0.mk (aJ3 (j := ⟨3, jn, je⟩) (q := 1) rfl (by omega)).1
      obtain ⟨y0, y1⟩ := end0 HR.out (ad := ad) rfl (by omega)
      obtain ⟨p, hp⟩ : ∃ p, p = je.getD 0 default := ⟨_, rfl⟩
      rw [← hp] at y0 y1
      have HA2 : Aside0 (acrossJ ⟨3, jn, je⟩ 1 = [p]) := ⟨by rw [HA.out, hp]; try rfl⟩
      clear hp HA
      rw [HW.out] at y0 y1
      go_enter Try.func135, Try.ntmps135
      go_wp2
      all_goals
        go_ret
        refine ⟨_, rfl, ?_, ?_⟩
        · rw [HA2.out]
          exact R_end1 _ p (by simp) (by simp; try omega)
        · repeat (first | (with_reducible exact Below.refl _ _) | (with_reducible exact fb.out) | (with_reducible refine below_drew ?_) | (with_reducible refine below_drewN' ?_ _) | (with_reducible refine below_alloc ?_ _))
    ·
      have HA := Aside0.mk (aJ3 (j := ⟨3, jn, je⟩) (q := 2) rfl (by omega)).1
      obtain ⟨y0, y1⟩ := end0 HR.out (ad := ad) rfl (by omega)
      obtain ⟨p, hp⟩ : ∃ p, p = je.getD 0 default := ⟨_, rfl⟩
      rw [← hp] at y0 y1
      have HA2 : Aside0 (acrossJ ⟨3, jn, je⟩ 2 = [p]) := ⟨by rw [HA.out, hp]; try rfl⟩
      clear hp HA
      rw [HW.out] at y0 y1
      go_enter Try.func135, Try.ntmps135
      go_wp2
      all_goals
        go_ret
        refine ⟨_, rfl, ?_, ?_⟩
        · rw [HA2.out]
          exact R_end1 _ p (by simp) (by simp; try omega)
        · repeat (first | (with_reducible exact Below.refl _ _) | (with_reducible exact fb.out) | (with_reducible refine below_drew ?_) | (with_reducible refine below_drewN' ?_ _) | (with_reducible refine below_alloc ?_ _))
  · have hl : je.length = 4 := by omega
    rw [hl] at HR HW ⊢
    have hqc : q = 0 ∨ q = 1 ∨ q = 2 ∨ q = 3 := by omega
    clear hk hq hk4
    rcases hqc with rfl | rfl | rfl | rfl
    ·
      have HA := Aside0.mk (aJ4 (j := ⟨4, jn, je⟩) (q := 0) rfl).1
      obtain ⟨y0, y1⟩ := end1 HR.out (ad := ad) rfl (by omega)
      obtain ⟨p, hp⟩ : ∃ p, p = je.getD 1 default := ⟨_, rfl⟩
      rw [← hp] at y0 y1
      have HA2 : Aside0 (acrossJ ⟨4, jn, je⟩ 0 = [p]) := ⟨by rw [HA.out, hp]; try rfl⟩
      clear hp HA
      rw [HW.out] at y0 y1
      replace y0 := pw_cell_below (below_alloc (Below.refl _ _) (.cells #[.int .i64 1, .int .i64 0, .int .i64 3, .int .i64 2] 3)) y0
      replace y1 := pw_cell_below (below_alloc (Below.refl _ _) (.cells #[.int .i64 1, .int .i64 0, .int .i64 3, .int .i64 2] 3)) y1
      go_enter Try.func135, Try.ntmps135
      go_wp2
      go_region
      all_goals try go_wp2
      all_goals
        go_ret
        refine ⟨_, rfl, ?_, ?_⟩
        · rw [HA2.out]
          exact R_end1 _ p (by simp) (by simp; try omega)
        · repeat (first | (with_reducible exact Below.refl _ _) | (with_reducible exact fb.out) | (with_reducible refine below_drew ?_) | (with_reducible refine below_drewN' ?_ _) | (with_reducible refine below_alloc ?_ _))
    ·
      have HA := Aside0.mk (aJ4 (j := ⟨4, jn, je⟩) (q := 1) rfl).1
      obtain ⟨y0, y1⟩ := end0 HR.out (ad := ad) rfl (by omega)
      obtain ⟨p, hp⟩ : ∃ p, p = je.getD 0 default := ⟨_, rfl⟩
      rw [← hp] at y0 y1
      have HA2 : Aside0 (acrossJ ⟨4, jn, je⟩ 1 = [p]) := ⟨by rw [HA.out, hp]; try rfl⟩
      clear hp HA
      rw [HW.out] at y0 y1
      replace y0 := pw_cell_below (below_alloc (Below.refl _ _) (.cells #[.int .i64 1, .int .i64 0, .int .i64 3, .int .i64 2] 3)) y0
      replace y1 := pw_cell_below (below_alloc (Below.refl _ _) (.cells #[.int .i64 1, .int .i64 0, .int .i64 3, .int .i64 2] 3)) y1
      go_enter Try.func135, Try.ntmps135
      go_wp2
      go_region
      all_goals try go_wp2
      all_goals
        go_ret
        refine ⟨_, rfl, ?_, ?_⟩
        · rw [HA2.out]
          exact R_end1 _ p (by simp) (by simp; try omega)
        · repeat (first | (with_reducible exact Below.refl _ _) | (with_reducible exact fb.out) | (with_reducible refine below_drew ?_) | (with_reducible refine below_drewN' ?_ _) | (with_reducible refine below_alloc ?_ _))
    ·
      have HA := Aside0.mk (aJ4 (j := ⟨4, jn, je⟩) (q := 2) rfl).1
      obtain ⟨y0, y1⟩ := end3 HR.out (ad := ad) rfl (by omega)
      obtain ⟨p, hp⟩ : ∃ p, p = je.getD 3 default := ⟨_, rfl⟩
      rw [← hp] at y0 y1
      have HA2 : Aside0 (acrossJ ⟨4, jn, je⟩ 2 = [p]) := ⟨by rw [HA.out, hp]; try rfl⟩
      clear hp HA
      rw [HW.out] at y0 y1
      replace y0 := pw_cell_below (below_alloc (Below.refl _ _) (.cells #[.int .i64 1, .int .i64 0, .int .i64 3, .int .i64 2] 3)) y0
      replace y1 := pw_cell_below (below_alloc (Below.refl _ _) (.cells #[.int .i64 1, .int .i64 0, .int .i64 3, .int .i64 2] 3)) y1
      go_enter Try.func135, Try.ntmps135
      go_wp2
      go_region
      all_goals try go_wp2
      all_goals
        go_ret
        refine ⟨_, rfl, ?_, ?_⟩
        · rw [HA2.out]
          exact R_end1 _ p (by simp) (by simp; try omega)
        · repeat (first | (with_reducible exact Below.refl _ _) | (with_reducible exact fb.out) | (with_reducible refine below_drew ?_) | (with_reducible refine below_drewN' ?_ _) | (with_reducible refine below_alloc ?_ _))
    ·
      have HA := Aside0.mk (aJ4 (j := ⟨4, jn, je⟩) (q := 3) rfl).1
      obtain ⟨y0, y1⟩ := end2 HR.out (ad := ad) rfl (by omega)
      obtain ⟨p, hp⟩ : ∃ p, p = je.getD 2 default := ⟨_, rfl⟩
      rw [← hp] at y0 y1
      have HA2 : Aside0 (acrossJ ⟨4, jn, je⟩ 3 = [p]) := ⟨by rw [HA.out, hp]; try rfl⟩
      clear hp HA
      rw [HW.out] at y0 y1
      replace y0 := pw_cell_below (below_alloc (Below.refl _ _) (.cells #[.int .i64 1, .int .i64 0, .int .i64 3, .int .i64 2] 3)) y0
      replace y1 := pw_cell_below (below_alloc (Below.refl _ _) (.cells #[.int .i64 1, .int .i64 0, .int .i64 3, .int .i64 2] 3)) y1
      go_enter Try.func135, Try.ntmps135
      go_wp2
      go_region
      all_goals try go_wp2
      all_goals
        go_ret
        refine ⟨_, rfl, ?_, ?_⟩
        · rw [HA2.out]
          exact R_end1 _ p (by simp) (by simp; try omega)
        · repeat (first | (with_reducible exact Below.refl _ _) | (with_reducible exact fb.out) | (with_reducible refine below_drew ?_) | (with_reducible refine below_drewN' ?_ _) | (with_reducible refine below_alloc ?_ _))
end Go.Proofs.Ytckcffjnffcjcaa
namespace Go.Proofs.Ytckcffjnffcjcaa
open Go.RowKit Go.Proofs.YtckcffjnffcjcaaW.PrintWords
theorem Bx.far {W : World} {b : Nat} {vs : List Value} (h : Bx W b vs) {g i : Nat} (hg : b ≠ g) (u : Value) : Bx (W.setCell ⟨g, i, none⟩ u) b vs := by
  have e : (W.setCell ⟨g, i, none⟩ u).heap[b]? = W.heap[b]? := Below.heap_setCell W ⟨g, i, none⟩ u b hg
  refine ⟨by simpa [World.setCell] using h.lt, fun i v hv => ?_, fun i => ?_⟩
  · have := h.c i v hv
    unfold World.cell? at this ⊢
    simp only at this ⊢
    rw [e]; exact this
  · have := h.f i
    unfold World.frozen? at this ⊢
    simp only at this ⊢
    rw [e]; exact this
theorem Bx.set {W : World} {b : Nat} {vs : List Value} (h : Bx W b vs) {i : Nat} (hi : i < vs.length) (u : Value) : Bx (W.setCell ⟨b, i, none⟩ u) b (vs.set i u) := by
  obtain ⟨v0, hv0⟩ : ∃ v0, vs[i]? = some v0 := ⟨vs[i], List.getElem?_eq_getElem hi⟩
  have hc0 := h.c i v0 hv0
  refine ⟨by simpa [World.setCell] using h.lt, fun j v hv => ?_, fun j => ?_⟩
  · rw [List.getElem?_set] at hv
    by_cases hij : i = j
    · subst hij
      rw [if_pos rfl, if_pos hi] at hv
      injection hv with hv
      subst hv
      exact World.cell?_setCell_same' W ⟨b, i, none⟩ u (by rw [hc0]; rfl)
    · rw [if_neg hij] at hv
      rw [World.cell?_setCell_other W _ _ _ (by intro h2; injection h2 with _ h2 _; exact hij h2)]
      exact h.c j v hv
  · rw [World.frozen?_setCell]
    exact h.f j
theorem Bx.drew {W : World} {b : Nat} {vs : List Value} (h : Bx W b vs) : Bx W.drew b vs := ⟨h.lt, h.c, h.f⟩
theorem Bx.drewN {W : World} {b : Nat} {vs : List Value} (h : Bx W b vs) (n : Nat) : Bx (W.drewN n) b vs := ⟨h.lt, h.c, h.f⟩
theorem Bx.new' (w : World) (vs : List Value) (t : TypeId) {g : Nat} (hg : g = w.heap.size) : Bx (w.alloc (.cells vs.toArray t)) g vs := by subst hg; exact Bx.new w vs t
end Go.Proofs.Ytckcffjnffcjcaa
namespace Go.Proofs.Ytckcffjnffcjcaa
open Go.RowKit Go.Proofs.YtckcffjnffcjcaaW.PrintWords
theorem Bx.kept {W w1 : World} {b g : Nat} {vs : List Value} (h : Bx W b vs) (hk : KeepBut W w1 g none) (hne : b ≠ g) : Bx w1 b vs := by
  have e : w1.heap[b]? = W.heap[b]? := hk.2 b h.lt hne (by simp)
  refine ⟨Nat.lt_of_lt_of_le h.lt hk.1, fun i v hv => ?_, fun i => ?_⟩
  · have := h.c i v hv
    unfold World.cell? at this ⊢
    simp only at this ⊢
    rw [e]; exact this
  · have := h.f i
    unfold World.frozen? at this ⊢
    simp only at this ⊢
    rw [e]; exact this
def curV (code : List Int) (A : Option Addr) (c k : Nat) : List Value := [.slice A code.length c, .int .i64 (k : Int), .int .u64 (seedAt code k)]
theorem seedAt_bd (code : List Int) : ∀ k, 0 ≤ seedAt code k ∧ seedAt code k < 18446744073709551616
  | 0 => by unfold seedAt; omega
  | k + 1 => by
    have hw : ∀ x : Int, 0 ≤ IntKind.u64.wrap x ∧ IntKind.u64.wrap x < 18446744073709551616 := fun x => by
      have e : IntKind.u64.wrap x = x % 18446744073709551616 := by first | rfl | simp [IntKind.wrap, IntKind.bits, IntKind.signed] | (unfold IntKind.wrap; rfl)
      rw [e]
      omega
    unfold seedAt
    split
    · exact hw _
    · exact hw _
theorem and_255 (E : Int) (h0 : 0 ≤ E) (h1 : E ≤ 18446744073709551615) : bits BinOp.and IntKind.u64 E 255 = E % 256 := by
  have h := bits_and_u64_nat E.toNat 255 (by omega) (by omega)
  rw [show (255 : Nat) = 2 ^ 8 - 1 from rfl, Nat.and_two_pow_sub_one_eq_mod, Int.toNat_of_nonneg h0] at h
  have h2 : ((E.toNat % 2 ^ 8 : Nat) : Int) = E % 256 := by omega
  exact h.trans h2
set_option maxRecDepth 100000 in
set_option maxHeartbeats 2000000 in
theorem next_any (code : List Int) (A : Option Addr) (c b k : Nat) (w0 w : World) (hr : Kd.C (Kd.int .u8) w0 A code.length code) (hg : GCode code) (HB : Below w0.heap.size w0 w) (hb : w0.heap.size ≤ b) (hx : Bx w b (curV code A c k)) (hk : k < 1000000000) :
    Calls Try.prog 168 #[.pointer (some ⟨b, 0, none⟩)] w
      fun e w' => e = .returned (.int .i64 (nx code k)) ∧ Bx w' b (curV code A c (k + 1)) ∧ KeepBut w w' b none ∧ Below w0.heap.size w0 w' := by
  have x0 := hx.c 0 _ rfl; have x1 := hx.c 1 _ rfl; have x2 := hx.c 2 _ rfl; have xf0 := hx.f 0; have xf1 := hx.f 1; have xf2 := hx.f 2
  have hm := hr.2.1
  have hnx := nx_bd hg k
  by_cases hlt : k < code.length
  · obtain ⟨ad0, e0, y0⟩ := at_Byte hr k hlt
    subst e0
    replace y0 := pw_cell_below HB y0
    have hs : seedAt code (k + 1) = seedW (seedAt code k) (code.getD k 0) := by show (if k < code.length then _ else _) = _; rw [if_pos hlt]
    have hn : nx code k = code.getD k 0 := by unfold nx; rw [if_pos hlt]
    rw [hn] at hnx
    have HS := Aside0.mk hs
    have HN := Aside0.mk hn
    have HX := Aside0.mk hx
    have HBB := Aside0.mk HB
    clear hs hn hx HB hr
    obtain ⟨p, hp⟩ : ∃ p, p = code.getD k 0 := ⟨_, rfl⟩
    rw [← hp] at y0 hnx
    have HP := Aside0.mk hp
    clear hp
    obtain ⟨q, hq⟩ : ∃ q, q = seedAt code k := ⟨_, rfl⟩
    rw [← hq] at x2
    have HQ := Aside0.mk hq
    clear hq
    go_enter Try.func168, Try.ntmps168
    go_wp2
    go_quiet (fail)
    go_wp2
    go_quiet (fail)
    go_wp2
    go_ret
    have e : curV code (some ad0) c (k + 1) = ((curV code (some ad0) c k).set 1 (.int .i64 ((k : Int) + 1))).set 2 (.int .u64 (IntKind.u64.wrap (IntKind.u64.wrap (IntKind.u64.wrap (q * 6364136223846793005) + p) + 1442695040888963407))) := by
      unfold curV
      rw [HS.out, ← HP.out, ← HQ.out]
      rfl
    refine ⟨by rw [HN.out, ← HP.out]; rfl, ?_, ?_, ?_⟩
    · rw [e]
      repeat (first | (with_reducible exact HX.out) | (with_reducible refine Bx.set ?_ (by simp [curV]) _) | (with_reducible refine Bx.drewN ?_ _) | (with_reducible refine Bx.drew ?_))
    · repeat (first | (with_reducible exact KeepBut.refl _ _ _) | (with_reducible refine KeepBut.set_ ?_ _ _) | (with_reducible refine keep_drewN ?_ _) | (with_reducible refine keep_drew ?_))
    · repeat (first | (with_reducible exact HBB.out) | (with_reducible refine below_set ?_ hb) | (with_reducible refine below_drewN' ?_ _) | (with_reducible refine below_drew ?_))
  · have hs : seedAt code (k + 1) = seedE (seedAt code k) := by show (if k < code.length then _ else _) = _; rw [if_neg hlt]
    have hn : nx code k = (seedAt code (k + 1) / 1099511627776) % 256 := by unfold nx; rw [if_neg hlt]
    have HS := Aside0.mk hs
    have HN := Aside0.mk hn
    have HX := Aside0.mk hx
    have HBB := Aside0.mk HB
    clear hs hn hx HB hr hnx
    have hge : decide (k < code.length) = false := by simp; omega
    clear hlt
    have HSB := Aside0.mk (seedAt_bd code (k + 1))
    have HNB := Aside0.mk (nx_bd hg k)
    obtain ⟨q, hq⟩ : ∃ q, q = seedAt code k := ⟨_, rfl⟩
    rw [← hq] at x2
    have HQ := Aside0.mk hq
    clear hq
    go_enter Try.func168, Try.ntmps168
    go_wp2
    go_quiet (fail)
    go_wp2
    go_ret
    have e1 : seedAt code (k + 1) = IntKind.u64.wrap (IntKind.u64.wrap (q * 6364136223846793005) + 1442695040888963407) := by rw [HS.out, ← HQ.out]; rfl
    have e : curV code A c (k + 1) = ((curV code A c k).set 2 (.int .u64 (IntKind.u64.wrap (IntKind.u64.wrap (q * 6364136223846793005) + 1442695040888963407)))).set 1 (.int .i64 ((k : Int) + 1)) := by
      unfold curV
      rw [e1]
      rfl
    refine ⟨?_, ?_, ?_, ?_⟩
    · have h1 := HSB.out
      have h2 := HNB.out
      rw [HN.out] at h2 ⊢
      rw [← e1]
      generalize seedAt code (k + 1) = Y at h1 h2 ⊢
      have h3 := and_255 (Y / 1099511627776) (by omega) (by omega)
      refine congrArg (fun v => Ending.returned (Value.int .i64 v)) ?_
      show RowKit.wrap64 (bits BinOp.and IntKind.u64 (Y / 1099511627776) 255) = _
      rw [h3]
      unfold RowKit.wrap64
      omega
    · rw [e]
      repeat (first | (with_reducible exact HX.out) | (with_reducible refine Bx.set ?_ (by simp [curV]) _) | (with_reducible refine Bx.drewN ?_ _) | (with_reducible refine Bx.drew ?_))
    · repeat (first | (with_reducible exact KeepBut.refl _ _ _) | (with_reducible refine KeepBut.set_ ?_ _ _) | (with_reducible refine keep_drewN ?_ _) | (with_reducible refine keep_drew ?_))
    · repeat (first | (with_reducible exact HBB.out) | (with_reducible refine below_set ?_ hb) | (with_reducible refine below_drewN' ?_ _) | (with_reducible refine below_drew ?_))
set_option maxRecDepth 100000 in
set_option maxHeartbeats 2000000 in
theorem pick_any (code : List Int) (A : Option Addr) (c b k : Nat) (n : Int) (w0 w : World) (hr : Kd.C (Kd.int .u8) w0 A code.length code) (hg : GCode code) (hB : Below w0.heap.size w0 w) (hb : w0.heap.size ≤ b) (hx : Bx w b (curV code A c k)) (hk : k < 900000000) (hn : n ≤ 1048576) :
    Calls Try.prog 109 #[.pointer (some ⟨b, 0, none⟩), .int .i64 n] w
      fun e w' => e = .returned (.int .i64 (pickV code n k)) ∧ Bx w' b (curV code A c (pickK n k)) ∧ KeepBut w w' b none ∧ Below w0.heap.size w0 w' := by
  have HR := Aside0.mk hr
  have HB := Aside0.mk hB
  have HX := Aside0.mk hx
  have hb1 := nx_bd hg k
  have hb2 := nx_bd hg (k + 1)
  clear hr hB hx
  by_cases h1 : n ≤ 1
  · have HV : Aside0 (pickV code n k = 0 ∧ pickK n k = k) := ⟨by unfold pickV pickK; rw [if_pos h1, if_pos h1]; exact ⟨rfl, rfl⟩⟩
    go_enter Try.func109, Try.ntmps109
    go_wp2
    go_ret
    rw [HV.out.1, HV.out.2]
    exact ⟨rfl, HX.out, KeepBut.refl _ _ _, HB.out⟩
  · by_cases h2 : 200 < n
    · have HV : Aside0 (pickV code n k = (nx code k * 256 + nx code (k + 1)) % n ∧ pickK n k = k + 2) := ⟨by unfold pickV pickK; rw [if_neg h1, if_neg h1, if_pos h2, if_pos h2]; exact ⟨rfl, rfl⟩⟩
      obtain ⟨q1, hq1⟩ : ∃ q, q = nx code k := ⟨_, rfl⟩
      obtain ⟨q2, hq2⟩ : ∃ q, q = nx code (k + 1) := ⟨_, rfl⟩
      rw [← hq1, ← hq2] at HV
      rw [← hq1] at hb1
      rw [← hq2] at hb2
      have Q1 := Aside0.mk hq1
      have Q2 := Aside0.mk hq2
      clear hq1 hq2
      go_enter Try.func109, Try.ntmps109
      go_wp2_with fail
      refine (next_any code A c b k w0 _ HR.out hg HB.out hb HX.out (by omega)).mono ?_
      rintro e w1 ⟨rfl, hx1, hk1, hb3⟩
      rw [← Q1.out]
      have X1 := Aside0.mk hx1; have K1 := Aside0.mk hk1; have B1 := Aside0.mk hb3; clear hx1 hk1 hb3
      go_wp2_with fail
      refine (next_any code A c b (k + 1) w0 _ HR.out hg B1.out hb X1.out (by omega)).mono ?_
      rintro e w2 ⟨rfl, hx1, hk1, hb3⟩
      rw [← Q2.out]
      have X2 := Aside0.mk hx1; have K2 := Aside0.mk (K1.out.trans hk1 (.inl rfl)); have B2 := Aside0.mk hb3; clear hx1 hk1 hb3
      go_wp2
      go_ret
      rw [HV.out.1, HV.out.2]
      exact ⟨rfl, X2.out, K2.out, B2.out⟩
    · have HV : Aside0 (pickV code n k = nx code k % n ∧ pickK n k = k + 1) := ⟨by unfold pickV pickK; rw [if_neg h1, if_neg h1, if_neg h2, if_neg h2]; exact ⟨rfl, rfl⟩⟩
      obtain ⟨q1, hq1⟩ : ∃ q, q = nx code k := ⟨_, rfl⟩
      rw [← hq1] at HV hb1
      have Q1 := Aside0.mk hq1
      clear hq1
      go_enter Try.func109, Try.ntmps109
      go_wp2_with fail
      refine (next_any code A c b k w0 _ HR.out hg HB.out hb HX.out (by omega)).mono ?_
      rintro e w1 ⟨rfl, hx1, hk1, hb3⟩
      rw [← Q1.out]
      have X1 := Aside0.mk hx1; have K1 := Aside0.mk hk1; have B1 := Aside0.mk hb3; clear hx1 hk1 hb3
      go_wp2
      go_ret
      rw [HV.out.1, HV.out.2]
      exact ⟨rfl, X1.out, K1.out, B1.out⟩
set_option maxRecDepth 100000 in
set_option maxHeartbeats 2000000 in
theorem wide_any (code : List Int) (A : Option Addr) (c b k : Nat) (n : Int) (w0 w : World) (hr : Kd.C (Kd.int .u8) w0 A code.length code) (hg : GCode code) (hB : Below w0.heap.size w0 w) (hb : w0.heap.size ≤ b) (hx : Bx w b (curV code A c k)) (hk : k < 900000000) (hn : n ≤ 100000000) (h1 : 1 ≤ n) :
    Calls Try.prog 110 #[.pointer (some ⟨b, 0, none⟩), .int .i64 n] w
      fun e w' => e = .returned (.int .i64 (wideV code n k)) ∧ Bx w' b (curV code A c (k + 2)) ∧ KeepBut w w' b none ∧ Below w0.heap.size w0 w' := by
  have HR := Aside0.mk hr
  have HB := Aside0.mk hB
  have HX := Aside0.mk hx
  have hb1 := nx_bd hg k
  have hb2 := nx_bd hg (k + 1)
  clear hr hB hx
  have HV : Aside0 (wideV code n k = (nx code k * 256 + nx code (k + 1)) % n) := ⟨rfl⟩
  obtain ⟨q1, hq1⟩ : ∃ q, q = nx code k := ⟨_, rfl⟩
  obtain ⟨q2, hq2⟩ : ∃ q, q = nx code (k + 1) := ⟨_, rfl⟩
  rw [← hq1, ← hq2] at HV
  rw [← hq1] at hb1
  rw [← hq2] at hb2
  have Q1 := Aside0.mk hq1
  have Q2 := Aside0.mk hq2
  clear hq1 hq2
  go_enter Try.func110, Try.ntmps110
  go_wp2_with fail
  refine (next_any code A c b k w0 _ HR.out hg HB.out hb HX.out (by omega)).mono ?_
  rintro e w1 ⟨rfl, hx1, hk1, hb3⟩
  rw [← Q1.out]
  have X1 := Aside0.mk hx1; have K1 := Aside0.mk hk1; have B1 := Aside0.mk hb3; clear hx1 hk1 hb3
  go_wp2_with fail
  refine (next_any code A c b (k + 1) w0 _ HR.out hg B1.out hb X1.out (by omega)).mono ?_
  rintro e w2 ⟨rfl, hx1, hk1, hb3⟩
  rw [← Q2.out]
  have X2 := Aside0.mk hx1; have K2 := Aside0.mk (K1.out.trans hk1 (.inl rfl)); have B2 := Aside0.mk hb3; clear hx1 hk1 hb3
  go_wp2
  go_ret
  rw [HV.out]
  exact ⟨rfl, X2.out, K2.out, B2.out⟩
end Go.Proofs.Ytckcffjnffcjcaa
namespace Go.Proofs.Ytckcffjnffcjcaa
open Go.RowKit Go.WideShapes Go.Proofs.YtckcffjnffcjcaaW.PrintWords
theorem decF_zero (f : Nat) (r : List UInt8) : decF f 0 r = r := by cases f <;> simp [decF]
theorem bytes_cons (x : UInt8) (r : List UInt8) : (⟨#[x]⟩ : ByteArray) ++ ⟨r.toArray⟩ = ⟨(x :: r).toArray⟩ := bytes_inj (by simp)
theorem one_byte (w : World) (d : Int) (m : Nat) (hd : d = (m : Int)) : (convert 31 9 (.slice (some ⟨w.heap.size, 0, none⟩) 1 1)).run Try.prog (w.alloc (.cells #[.int .u8 d] 5)) = .ok (.string ⟨#[UInt8.ofNat m]⟩) (w.alloc (.cells #[.int .u8 d] 5)) := by
  have h : ReadsInt (w.alloc (.cells #[.int .u8 d] 5)) .u8 (some ⟨w.heap.size, 0, none⟩) 1 [d] := ⟨rfl, by omega, fun _ => ⟨_, rfl, fun j hj => by
    have e : j = 0 := by omega
    subst e
    exact (Bx.new w [.int .u8 d] 5).c 0 _ rfl⟩⟩
  have := string_of_reads (c := 1) Try.underlying31 Try.underlying5 Try.underlying9 h
  rw [this]
  subst hd
  rfl
theorem one_byte_at {W : World} {g : Nat} (d : Int) (m : Nat) (hd : d = (m : Int)) (hx : Bx W g [.int .u8 d]) : (convert 31 9 (.slice (some ⟨g, 0, none⟩) 1 1)).run Try.prog W = .ok (.string ⟨#[UInt8.ofNat m]⟩) W := by
  have h : ReadsInt W .u8 (some ⟨g, 0, none⟩) 1 [d] := ⟨rfl, by omega, fun _ => ⟨_, rfl, fun j hj => by
    have e : j = 0 := by omega
    subst e
    exact hx.c 0 _ rfl⟩⟩
  have := string_of_reads (c := 1) Try.underlying31 Try.underlying5 Try.underlying9 h
  rw [this]
  subst hd
  rfl
set_option maxRecDepth 100000 in
set_option maxHeartbeats 2000000 in
theorem dec_any (n : Nat) (w : World) (hn : n ≤ 1000000000) :
    Calls Try.prog 189 #[.int .i64 (n : Int)] w fun e w' => e = .returned (.string ⟨(decL n).toArray⟩) ∧ Below w.heap.size w w' := by
  by_cases h0 : n = 0
  · subst h0
    go_enter Try.func189, Try.ntmps189
    go_wp2
    go_ret
    exact ⟨rfl, Below.refl _ _⟩
  · have hz : ((n : Int) == 0) = false := by simp; omega
    have HV : Aside0 (decL n = decF n n []) := ⟨by unfold decL; rw [if_neg h0]⟩
    clear h0
    go_enter Try.func189, Try.ntmps189
    go_wp2
    go_loopw [0, 3] (fun v0 v3 wr => ∃ (m f : Nat) (r : List UInt8), v0 = .int .i64 (m : Int) ∧ v3 = .string ⟨r.toArray⟩ ∧ m ≤ n ∧ m ≤ f ∧ r.length + m ≤ n ∧ Aside0 (decF f m r = decL n) ∧ Aside0 (Below w.heap.size w wr)) (fun v0 _ _ => (intOf v0).toNat)
    case atStart => exact ⟨n, n, [], rfl, rfl, Nat.le_refl _, Nat.le_refl _, by simp, ⟨HV.out.symm⟩, ⟨Below.refl _ _⟩⟩
    case round =>
      obtain ⟨m, f, r, rfl, rfl, hm, hf, hrl, HD, HB⟩ := hrel
      by_cases hp : 0 < m
      · have hb := one_byte wr (48 + (m : Int) % 10) (48 + m % 10) (by omega)
        go_wp2
        go_roundw
        case rel =>
          obtain ⟨f, rfl⟩ : ∃ f', f = f' + 1 := ⟨f - 1, by omega⟩
          refine ⟨m / 10, f, (48 + UInt8.ofNat (m % 10)) :: r, by go_num, congrArg Value.string (bytes_cons _ _), by omega, by omega, by simp; omega, ⟨?_⟩, ⟨below_alloc HB.out _⟩⟩
          rw [← HD.out]
          show _ = (if m = 0 then r else _)
          rw [if_neg (by omega)]
        case measure => simp [intOf]; omega
      · go_wp2
        go_ret
        have e : m = 0 := by omega
        subst e
        refine ⟨by rw [← HD.out, decF_zero]; rfl, HB.out⟩
theorem decF_len : ∀ (f n : Nat) (r : List UInt8), (decF f n r).length ≤ r.length + n
  | 0, n, r => by simp [decF]
  | f + 1, n, r => by
    simp only [decF]
    split
    · omega
    · have := decF_len f (n / 10) ((48 + UInt8.ofNat (n % 10)) :: r)
      simp only [List.length_cons] at this
      omega
theorem decL_len (n : Nat) : (decL n).length ≤ n + 1 := by
  unfold decL
  split
  · simp
  · have := decF_len n n []
    simp at this
    omega
set_option maxRecDepth 100000 in
set_option maxHeartbeats 2000000 in
theorem name_any (b i : Nat) (w : World) (hi : i ≤ 1000) :
    Calls Try.prog 167 #[.pointer (some ⟨b, 0, none⟩), .int .i64 (i : Int)] w fun e w' => e = .returned (.string (nameG i)) ∧ Below w.heap.size w w' := by
  have hl := decL_len i
  go_enter Try.func167, Try.ntmps167
  go_wp2
  obtain ⟨d, hd⟩ : ∃ d : Int, d = 97 + (i : Int) % 26 := ⟨_, rfl⟩
  have e1 : IntKind.u8.wrap (IntKind.i64.wrap (97 + ((i : Int)).tmod 26)) = d := by
    have h1 : ((i : Int)).tmod 26 = (i : Int) % 26 := Int.tmod_eq_emod_of_nonneg (by omega)
    have h2 : IntKind.i64.wrap (97 + (i : Int) % 26) = 97 + (i : Int) % 26 := wrap64 (by omega) (by omega)
    have h3 : IntKind.u8.wrap (97 + (i : Int) % 26) = (97 + (i : Int) % 26) % 256 := rfl
    rw [h1, h2, h3, hd]
    omega
  have HD := Aside0.mk (show d = ((97 + i % 26 : Nat) : Int) by omega)
  clear hd
  have hq : ∀ W : World, (convert 31 9 (.slice (some ⟨W.heap.size, 0, none⟩) 1 1)).run Try.prog (W.alloc (.cells #[.int .u8 d] 5)).drew = .ok (.string ⟨#[UInt8.ofNat (97 + i % 26)]⟩) (W.alloc (.cells #[.int .u8 d] 5)).drew := fun W => one_byte_at _ _ HD.out (Bx.drew (Bx.new W [.int .u8 d] 5))
  have hq' : ∀ W : World, (convert 31 9 (.slice (some ⟨W.heap.size, 0, none⟩) 1 1)).run Try.prog (W.alloc (.cells #[.int .u8 d] 5)) = .ok (.string ⟨#[UInt8.ofNat (97 + i % 26)]⟩) (W.alloc (.cells #[.int .u8 d] 5)) := fun W => one_byte_at _ _ HD.out (Bx.new W [.int .u8 d] 5)
  go_region_with (first | (go_at_call 189; refine (dec_any i _ (by omega)).mono ?_; rintro e w3 ⟨rfl, b3⟩; (first | (have hq3 := one_byte_at _ _ HD.out ((Bx.drew (Bx.new _ [.int .u8 d] 5)).below b3)) | skip)))
  all_goals
    try go_wp2
    go_ret
    refine ⟨?_, ?_⟩
    · refine congrArg (fun v => Ending.returned (Value.string v)) ?_
      unfold nameG nameL
      rw [← bytes_cons]
      first | rfl | simp
    · repeat (first | (with_reducible exact Below.refl _ _) | (with_reducible exact b3) | (with_reducible refine below_more ?_ b3) | (with_reducible refine below_drewN' ?_ _) | (with_reducible refine below_drew ?_) | (with_reducible refine below_alloc ?_ _))
end Go.Proofs.Ytckcffjnffcjcaa
namespace Go.Proofs.Ytckcffjnffcjcaa
open Go.RowKit Go.Proofs.YtckcffjnffcjcaaW.PrintWords
theorem C_same {α : Type} {d : Kd α} {w W' : World} {A : Option Addr} {n : Nat} {xs : List α} (hd : ∀ {W W' : World} {x : α} {cs : List Value}, d.K W x cs → d.K W' x cs) (h : Kd.C d w A n xs) (hm : ∀ ad, A = some ad → 0 < n → W'.heap[ad.block]? = w.heap[ad.block]?) : Kd.C d W' A n xs := by
  refine ⟨h.1, h.2.1, fun hn => ?_⟩
  obtain ⟨ad, he, hc⟩ := h.2.2 hn
  refine ⟨ad, he, fun j p hj => ?_⟩
  obtain ⟨cs, h1, h2, h3⟩ := hc j p hj
  refine ⟨cs, h1, hd h2, fun i u hu => ?_⟩
  have := h3 i u hu
  have e := hm ad he hn
  unfold World.cell? at this ⊢
  simp only [add_block] at this ⊢
  rw [e]; exact this
theorem Bx.grownB {W w1 : World} {b : Nat} {row : Option Nat} {vs : List Value} (h : Bx W b vs) (hk : W.grownBy w1 row) (hne : some b ≠ row) : Bx w1 b vs := by
  have e : w1.heap[b]? = W.heap[b]? := hk.block b h.lt hne
  refine ⟨Nat.lt_of_lt_of_le h.lt hk.size, fun i v hv => ?_, fun i => ?_⟩
  · have := h.c i v hv
    unfold World.cell? at this ⊢
    simp only at this ⊢
    rw [e]; exact this
  · have := h.f i
    unfold World.frozen? at this ⊢
    simp only at this ⊢
    rw [e]; exact this
theorem R_keptL {α : Type} {d : Kd α} {e base bc : Nat} {w w1 : World} {v : Value} {xs : List α} (h : d.R e w base (fun _ => True) v xs) (hk : KeepBut w w1 bc none) (hlt : bc < base) : d.R e w1 base (fun _ => True) v xs :=
  Kd.R_mono (Kd.R_keep (Kd.R_bound h) hk (fun k hk => by have := hk.2.1; omega)) (fun _ _ => trivial)
structure NI (w0 w : World) (code : List Int) (A : Option Addr) (c bc base k : Nat) (pv jv : Value) (ps : List PieceT) (js : List JointT) (W : World) : Prop where
  cur : Bx W bc (curV code A c k)
  res : Bx W w.heap.size [.slice none 0 0, .slice none 0 0]
  net : Bx W (w.heap.size + 1) [pv, jv]
  pr : Kd.R kPiece 78 W (w.heap.size + 2) (fun _ => True) pv ps
  jr : Kd.R (kJoint 67) 139 W base (fun _ => True) jv js
  b0 : Below w0.heap.size w0 W
  kp : KeepBut w W bc none
  sz : base ≤ W.heap.size
  bs : w.heap.size + 2 ≤ base
  bl : bc < w.heap.size
  b1 : w0.heap.size ≤ bc
section
variable {w0 w : World} {code : List Int} {A : Option Addr} {c bc base k : Nat} {pv jv : Value} {ps : List PieceT} {js : List JointT} {W W' : World} {u : Value}
theorem setCell_sz (W : World) (p : Addr) (u : Value) : (W.setCell p u).heap.size = W.heap.size := by simp [World.setCell]
theorem below_of (h : NI w0 w code A c bc base k pv jv ps js W) (hb : Below W.heap.size W W') : Below w0.heap.size w0 W' :=
  h.b0.trans ⟨hb.os, hb.tape, hb.output, hb.size, fun i hi => hb.block i (Nat.lt_of_lt_of_le hi (by have := h.b0.size; omega))⟩
theorem NI.below (h : NI w0 w code A c bc base k pv jv ps js W) (hb : Below W.heap.size W W') : NI w0 w code A c bc base k pv jv ps js W' :=
  ⟨h.cur.below hb, h.res.below hb, h.net.below hb, Kd.R_below h.pr hb, Kd.R_below h.jr hb, below_of h hb, h.kp.trans (KeepBut.of_below hb _ _) (.inl rfl), Nat.le_trans h.sz hb.size, h.bs, h.bl, h.b1⟩
theorem NI.drew (h : NI w0 w code A c bc base k pv jv ps js W) : NI w0 w code A c bc base k pv jv ps js W.drew := h.below (below_drew (Below.refl _ _))
theorem NI.alloc (h : NI w0 w code A c bc base k pv jv ps js W) (o : Obj) : NI w0 w code A c bc base k pv jv ps js (W.alloc o) := h.below (below_alloc (Below.refl _ _) o)
theorem NI.pick {k' : Nat} (h : NI w0 w code A c bc base k pv jv ps js W) (hx : Bx W' bc (curV code A c k')) (hk : KeepBut W W' bc none) (hb : Below w0.heap.size w0 W') : NI w0 w code A c bc base k' pv jv ps js W' :=
  ⟨hx, h.res.kept hk (by have := h.bl; omega), h.net.kept hk (by have := h.bl; omega), R_keptL h.pr hk (by have := h.bl; omega), R_keptL h.jr hk (by have := h.bl; have := h.bs; omega), hb, h.kp.trans hk (.inl rfl), Nat.le_trans h.sz hk.1, h.bs, h.bl, h.b1⟩
theorem NI.grow {row : Option Nat} (h : NI w0 w code A c bc base k pv jv ps js W) (hg : W.grownBy W' row) (hne : ∀ g, row = some g → w.heap.size + 2 ≤ g) (hp : Kd.R kPiece 78 W' (w.heap.size + 2) (fun _ => True) pv ps) (hj : Kd.R (kJoint 67) 139 W' base (fun _ => True) jv js) (hb : Below w0.heap.size w0 W') : NI w0 w code A c bc base k pv jv ps js W' := by
  have hbl := h.bl
  have key : ∀ b, b < w.heap.size + 2 → some b ≠ row := fun b hb he => by
    have := hne b he.symm
    omega
  exact ⟨h.cur.grownB hg (key _ (by omega)), h.res.grownB hg (key _ (by omega)), h.net.grownB hg (key _ (by omega)), hp, hj, hb, ⟨Nat.le_trans h.kp.1 hg.size, fun i hi h1 h2 => (hg.block i (Nat.lt_of_lt_of_le hi h.kp.1) (key _ (by omega))).trans (h.kp.2 i hi h1 h2)⟩, Nat.le_trans h.sz hg.size, h.bs, h.bl, h.b1⟩
theorem NI.setP {pv1 : Value} {ps1 : List PieceT} (h : NI w0 w code A c bc base k pv jv ps js W) (hg : W.grownBy W' pv.ownBlock) (hp : Kd.R kPiece 78 W' (w.heap.size + 2) (fun _ => True) pv1 ps1) (hj : Kd.R (kJoint 67) 139 W' base (fun _ => True) jv js) (hb : Below w0.heap.size w0 W') : NI w0 w code A c bc base k pv1 jv ps1 js (W'.setCell ⟨w.heap.size + 1, 0, none⟩ pv1) := by
  have hbl := h.bl
  have hb1 := h.b1
  have hbs := h.bs
  have key : ∀ b, b < w.heap.size + 2 → some b ≠ pv.ownBlock := fun b hb he => by
    have := Kd.R_base h.pr b he.symm
    omega
  have kp : KeepBut w W' bc none := ⟨Nat.le_trans h.kp.1 hg.size, fun i hi h1 h2 => (hg.block i (Nat.lt_of_lt_of_le hi h.kp.1) (key _ (by omega))).trans (h.kp.2 i hi h1 h2)⟩
  refine ⟨(h.cur.grownB hg (key _ (by omega))).far (by omega) _, (h.res.grownB hg (key _ (by omega))).far (by omega) _, ?_, R_apart hp (by show w.heap.size + 1 < _; omega) _, R_apart hj (by show w.heap.size + 1 < _; omega) _, Below.setCell hb (by show w0.heap.size ≤ w.heap.size + 1; omega) _, keep_far kp (by show w.heap.size ≤ w.heap.size + 1; omega) _, ?_, h.bs, h.bl, h.b1⟩
  · exact (h.net.grownB hg (key _ (by omega))).set (i := 0) (by simp) _
  · rw [setCell_sz]; exact Nat.le_trans h.sz hg.size
theorem NI.setJ {jv1 : Value} {js1 : List JointT} (h : NI w0 w code A c bc base k pv jv ps js W) (hg : W.grownBy W' jv.ownBlock) (hp : Kd.R kPiece 78 W' (w.heap.size + 2) (fun _ => True) pv ps) (hj : Kd.R (kJoint 67) 139 W' base (fun _ => True) jv1 js1) (hb : Below w0.heap.size w0 W') : NI w0 w code A c bc base k pv jv1 ps js1 (W'.setCell ⟨w.heap.size + 1, 1, none⟩ jv1) := by
  have hbl := h.bl
  have hb1 := h.b1
  have hbs := h.bs
  have key : ∀ b, b < w.heap.size + 2 → some b ≠ jv.ownBlock := fun b hb he => by
    have := Kd.R_base h.jr b he.symm
    omega
  have kp : KeepBut w W' bc none := ⟨Nat.le_trans h.kp.1 hg.size, fun i hi h1 h2 => (hg.block i (Nat.lt_of_lt_of_le hi h.kp.1) (key _ (by omega))).trans (h.kp.2 i hi h1 h2)⟩
  refine ⟨(h.cur.grownB hg (key _ (by omega))).far (by omega) _, (h.res.grownB hg (key _ (by omega))).far (by omega) _, ?_, R_apart hp (by show w.heap.size + 1 < _; omega) _, R_apart hj (by show w.heap.size + 1 < _; omega) _, Below.setCell hb (by show w0.heap.size ≤ w.heap.size + 1; omega) _, keep_far kp (by show w.heap.size ≤ w.heap.size + 1; omega) _, ?_, h.bs, h.bl, h.b1⟩
  · exact (h.net.grownB hg (key _ (by omega))).set (i := 1) (by simp) _
  · rw [setCell_sz]; exact Nat.le_trans h.sz hg.size
end
end Go.Proofs.Ytckcffjnffcjcaa
namespace Go.Proofs.Ytckcffjnffcjcaa
open Go.RowKit Go.Proofs.YtckcffjnffcjcaaW.PrintWords
theorem below_lo {a b : Nat} {w w1 w2 : World} (h : Below a w w1) (k : Below b w1 w2) (hab : a ≤ b) : Below a w w2 :=
  h.trans ⟨k.os, k.tape, k.output, k.size, fun i hi => k.block i (Nat.lt_of_lt_of_le hi hab)⟩
theorem R_typed {α β : Type} {d : Kd α} {d' : Kd β} {e e' g n cap b b' : Nat} {ok ok' : Nat → Prop} {W w1 : World} {u : Value} {xs : List α} {ys : List β} (h : d.R e W b ok u xs) (hv : d'.R e' W b' ok' (.slice (some ⟨g, 0, none⟩) n cap) ys) (ht : ∀ q, q ∈ e :: d.E → q ≠ e') (hg : W.grownBy w1 (some g)) : d.R e w1 b ok u xs := Kd.R_over h hv ht hg
theorem add_z (g n : Nat) : (⟨g, 0, none⟩ : Addr).add n = ⟨g, n, none⟩ := by
  unfold Addr.add
  split
  · rename_i h; simp [h]
  · simp
def lenG : Value → Nat | .slice _ n _ => n | _ => 0
theorem name_anyI (b i : Nat) (m : Int) (w : World) (hi : i ≤ 1000) (hm : m = (i : Int)) :
    Calls Try.prog 167 #[.pointer (some ⟨b, 0, none⟩), .int .i64 m] w fun e w' => e = .returned (.string (nameG i)) ∧ Below w.heap.size w w' := by
  subst hm; exact name_any b i w hi
theorem blk_of {adE : Addr} {g c x m : Nat} (A : Option Addr) (h : adE.block = g) : ∀ ad, (if c = x then some adE else (some adE).map (·.add m)) = some ad → ad.block = g := fun ad h2 => by
  split at h2
  · have := Option.some.inj h2; rw [← this]; exact h
  · have := Option.some.inj h2; rw [← this, add_block]; exact h
theorem kPiece_139 : ∀ q, q ∈ 78 :: kPiece.E → q ≠ 139 := by decide
theorem kPiece_67 : ∀ q, q ∈ 78 :: kPiece.E → q ≠ 67 := by decide
theorem kEnd_78 : ∀ q, q ∈ 67 :: kEnd.E → q ≠ 78 := by decide
theorem gate_callG {P : Program} {ops : Array Oper} {rest : List Oper} {o : Oper} {a : Act} {Q : Exit → Act → World → Prop} {W : World} {b : Builtin} {xs : Array Operand} {ts : Array TypeId} (_ho : o.op = .call { callee := .builtin b, args := xs, argTypes := ts }) (h : wpList P ops Q (o :: rest) a W) : wpList P ops Q (o :: rest) a W := h
theorem C_lit2 (W : World) (x y : EndT) : ReadsRow (fun (x : EndT) cs => cs = [.int .i64 x.piece, .int .i64 x.side]) 2 (W.alloc (.cells #[.int .i64 x.piece, .int .i64 x.side, .int .i64 y.piece, .int .i64 y.side] 67)) (some ⟨W.heap.size, 0, none⟩) 2 [x, y] := by
  refine ⟨rfl, by omega, fun _ => ⟨_, rfl, fun j p hj => ?_⟩⟩
  have hx := Bx.new W [.int .i64 x.piece, .int .i64 x.side, .int .i64 y.piece, .int .i64 y.side] 67
  have hj2 : j < 2 := by
    have := (List.getElem?_eq_some_iff.1 hj).1
    simpa using this
  have : j = 0 ∨ j = 1 := by omega
  rcases this with rfl | rfl
  · simp at hj
    subst hj
    refine ⟨_, rfl, rfl, fun i u hu => ?_⟩
    have hi : i = 0 ∨ i = 1 := by
      have := (List.getElem?_eq_some_iff.1 hu).1
      simp at this
      omega
    rcases hi with rfl | rfl
    · exact hx.c 0 _ hu
    · exact hx.c 1 _ hu
  · simp at hj
    subst hj
    refine ⟨_, rfl, rfl, fun i u hu => ?_⟩
    have hi : i = 0 ∨ i = 1 := by
      have := (List.getElem?_eq_some_iff.1 hu).1
      simp at this
      omega
    rcases hi with rfl | rfl
    · exact hx.c 2 _ hu
    · exact hx.c 3 _ hu
theorem pickK_1 {n : Int} (h : 1 < n) (h2 : n ≤ 200) (k : Nat) : pickK n k = k + 1 := by unfold pickK; rw [if_neg (by omega), if_neg (by omega)]
set_option maxRecDepth 100000 in
set_option maxHeartbeats 16000000 in
theorem net_any (code : List Int) (A : Option Addr) (c bc : Nat) (w0 w : World) (hr : Kd.C (Kd.int .u8) w0 A code.length code) (hg : GCode code) (hB : Below w0.heap.size w0 w) (hb : w0.heap.size ≤ bc) (hx : Bx w bc (curV code A c 0)) :
    Calls Try.prog 108 #[.pointer (some ⟨bc, 0, none⟩)] w
      fun e w' => ∃ pv jv, e = .returned (.agg #[pv, jv]) ∧ Kd.R kPiece 78 w' w.heap.size (fun _ => True) pv (netG code).pieces ∧ Kd.R (kJoint 67) 139 w' w.heap.size (fun _ => True) jv (netG code).joints ∧ Bx w' bc (curV code A c (genJs code).2) ∧ KeepBut w w' bc none ∧ Below w0.heap.size w0 w' := by
  have hlt := hx.lt
  obtain ⟨W0, hW0⟩ : ∃ W0, W0 = (w.alloc (.cells #[.slice none 0 0, .slice none 0 0] 35)).alloc (.cells #[.slice none 0 0, .slice none 0 0] 35) := ⟨_, rfl⟩
  have hs0 : W0.heap.size = w.heap.size + 2 := by rw [hW0]; simp
  have fb : Below w.heap.size w W0 := by rw [hW0]; exact below_two _ _ _
  have HI : Aside0 (NI w0 w code A c bc (w.heap.size + 2) 0 (.slice none 0 0) (.slice none 0 0) [] [] W0) := ⟨hx.below fb, by rw [hW0]; exact (Bx.new w _ 35).alloc _, by rw [hW0]; exact Bx.new' _ _ _ (by simp), Kd.R_nil .., Kd.R_nil .., hB.trans ⟨fb.os, fb.tape, fb.output, fb.size, fun i hi => fb.block i (by have := hB.size; omega)⟩, KeepBut.of_below fb _ _, by omega, Nat.le_refl _, hlt, hb⟩
  have HR := Aside0.mk hr
  have HW := Aside0.mk hW0
  clear hW0 hr fb hB hx
  obtain ⟨sm, hsm⟩ : ∃ sm, sm = pickV code 4 0 := ⟨_, rfl⟩
  have HSM := Aside0.mk hsm
  have hsb := pickV_bd code (n := 4) (by omega) 0
  rw [← hsm] at hsb
  obtain ⟨P, hP⟩ : ∃ P, P = piecesN code := ⟨_, rfl⟩
  have hPb := piecesN_bd code
  rw [← hP] at hPb
  have hp9 : 1 + pickV code 9 1 = (P : Int) := by
    have := pickV_bd code (n := 9) (by omega) 1
    rw [hP]; unfold piecesN; omega
  have HP := Aside0.mk hP
  have HP9 := Aside0.mk hp9
  clear hsm hP hp9
  obtain ⟨q9, hq9⟩ : ∃ q, q = pickV code 9 1 := ⟨_, rfl⟩
  rw [← hq9] at HP9
  have HQ9 := Aside0.mk hq9
  have hq9b : 1 + q9 = (P : Int) := HP9.out
  clear hq9
  have hwq : IntKind.i64.wrap (1 + q9) = (P : Int) := by rw [hq9b]; exact wrap64 (by omega) (by omega)
  go_enter Try.func108, Try.ntmps108
  go_wp2_with fail
  rw [← HW.out]
  refine (pick_any code A c bc 0 4 w0 _ HR.out hg HI.out.b0 hb HI.out.cur (by omega) (by omega)).mono ?_
  rintro e w1 ⟨rfl, hx1, hk1, hb1⟩
  rw [← HSM.out]
  have I1 := Aside0.mk (HI.out.pick hx1 hk1 hb1)
  clear hx1 hk1 hb1
  go_wp2_with fail
  refine (pick_any code A c bc 1 9 w0 _ HR.out hg I1.out.b0 hb I1.out.cur (by omega) (by omega)).mono ?_
  rintro e w2 ⟨rfl, hx1, hk1, hb1⟩
  rw [← HQ9.out]
  have I2 := Aside0.mk (I1.out.pick hx1 hk1 hb1)
  clear hx1 hk1 hb1
  go_wp2_with fail
  have hpl : ∀ i, (genPieces code sm 2 i).1.length = i := genPieces_len code sm 2
  have hpk : ∀ i, (genPieces code sm 2 i).2 ≤ 2 + 5 * i := genPieces_k code sm 2
  have HPL := Aside0.mk hpl
  have HPK := Aside0.mk hpk
  clear hpl hpk
  go_loopw [4, 6] (fun v4 v6 wr => ∃ (i : Nat) (EA : Option Addr) (ec : Nat) (pv : Value), v6 = .int .i64 (i : Int) ∧ v4 = .slice EA (2 * i) ec ∧ i ≤ P ∧ Aside0 (NI w0 w code A c bc (w.heap.size + 2) (genPieces code sm 2 i).2 pv (.slice none 0 0) (genPieces code sm 2 i).1 [] wr) ∧ Aside0 (Kd.R kEnd 67 wr (w.heap.size + 2) (fun _ => True) (.slice EA (2 * i) ec) (endsOf i))) (fun _ v6 _ => P - (intOf v6).toNat)
  case atStart => exact ⟨0, none, 0, .slice none 0 0, rfl, rfl, by omega, I2, ⟨Kd.R_nil ..⟩⟩
  case round =>
    clear I2 I1 HI
    obtain ⟨i, EA, ec, pv, rfl, rfl, hi, HI, HE⟩ := hrel
    by_cases hlt : i < P
    · have hkk := HPK.out i
      have hll := HPL.out i
      obtain ⟨K, hK⟩ : ∃ K, K = (genPieces code sm 2 i).2 := ⟨_, rfl⟩
      obtain ⟨PS, hPS⟩ : ∃ PS, PS = (genPieces code sm 2 i).1 := ⟨_, rfl⟩
      rw [← hK, ← hPS] at HI
      rw [← hK] at hkk
      rw [← hPS] at hll
      have HKK := Aside0.mk hK
      have HPS := Aside0.mk hPS
      have HLL := Aside0.mk hll
      clear hK hPS hll
      have hw := wideV_bd code (n := 300) (by omega) K
      obtain ⟨L0, hL0⟩ : ∃ L, L = wideV code 300 K := ⟨_, rfl⟩
      rw [← hL0] at hw
      have HLW := Aside0.mk hL0
      clear hL0
      go_wp2_with fail
      refine (wide_any code A c bc K 300 w0 _ HR.out hg HI.out.b0 hb HI.out.cur (by omega) (by omega) (by omega)).mono ?_
      rintro e w4 ⟨rfl, hx1, hk1, hb1⟩
      rw [← HLW.out]
      have I4 := Aside0.mk (HI.out.pick hx1 hk1 hb1)
      have E4 := Aside0.mk (R_keptL HE.out hk1 (by omega))
      clear hx1 hk1 hb1
      go_upto_if 30 with (fail)
      go_cut [8] (fun s8 W => ∃ (L : Int) (KK : Nat), s8 = .int .i64 (1 + L) ∧ 0 ≤ L ∧ L < 300 ∧ KK ≤ 60 ∧ Aside0 (genPiece code sm i K = (⟨nameG i, 1 + L, 1 + pickV code 200 KK, 1 + pickV code 90 (KK + 1)⟩, KK + 2)) ∧ Aside0 (NI w0 w code A c bc (w.heap.size + 2) KK pv (.slice none 0 0) PS [] W) ∧ Aside0 (Kd.R kEnd 67 W (w.heap.size + 2) (fun _ => True) (.slice EA (2 * i) ec) (endsOf i)))
      case first =>
        by_cases hs0 : sm = 0
        · have hst : (sm == 0) = true := by simpa using hs0
          have hG : genPiece code sm i K = (⟨nameG i, 1 + pickV code 4 (K + 2), 1 + pickV code 200 (K + 3), 1 + pickV code 90 (K + 3 + 1)⟩, K + 3 + 2) := by unfold genPiece; rw [if_pos hs0]
          have hw4 := pickV_bd code (n := 4) (by omega) (K + 2)
          obtain ⟨L, hL⟩ : ∃ L, L = pickV code 4 (K + 2) := ⟨_, rfl⟩
          rw [← hL] at hG hw4
          have HL4 := Aside0.mk hL
          have HG := Aside0.mk hG
          clear hL hs0 hG
          go_wp2_with fail
          refine (pick_any code A c bc (K + 2) 4 w0 _ HR.out hg I4.out.b0 hb I4.out.cur (by omega) (by omega)).mono ?_
          rintro e w5 ⟨rfl, hx1, hk1, hb1⟩
          rw [← HL4.out]
          rw [pickK_1 (by omega) (by omega)] at hx1
          have I5 := Aside0.mk (I4.out.pick hx1 hk1 hb1)
          have E5 := Aside0.mk (R_keptL E4.out hk1 (by omega))
          clear hx1 hk1 hb1
          go_wp2_with fail
          go_meet
          case rel => exact ⟨L, K + 3, rfl, hw4.1, by omega, by omega, HG, I5, E5⟩
        · have hsf : (sm == 0) = false := by simpa using hs0
          have hG : genPiece code sm i K = (⟨nameG i, 1 + L0, 1 + pickV code 200 (K + 2), 1 + pickV code 90 (K + 2 + 1)⟩, K + 2 + 2) := by unfold genPiece; rw [if_neg hs0, ← HLW.out]
          have HG := Aside0.mk hG
          clear hs0 hG
          go_wp2_with fail
          go_meet
          case rel => exact ⟨L0, K + 2, rfl, hw.1, by omega, by omega, HG, I4, E4⟩
      case rest =>
      clear I4 E4 HLW hw L0
      obtain ⟨L, KK, rfl, hL0, hL1, hKK, HG, I5, E5⟩ := hcut
      have I5d := Aside0.mk I5.out.drew
      have E5d := Aside0.mk (Kd.R_drew E5.out)
      have n5 := I5.out.net.c 0 _ rfl
      have hq1 := pickV_bd code (n := 200) (by omega) (KK)
      have hq2 := pickV_bd code (n := 90) (by omega) (KK + 1)
      obtain ⟨q1, hQ1⟩ : ∃ q, q = pickV code 200 (KK) := ⟨_, rfl⟩
      obtain ⟨q2, hQ2⟩ : ∃ q, q = pickV code 90 (KK + 1) := ⟨_, rfl⟩
      rw [← hQ1] at hq1
      rw [← hQ2] at hq2
      have HQ1 := Aside0.mk hQ1
      have HQ2 := Aside0.mk hQ2
      clear hQ1 hQ2
      go_wp2_with fail
      go_cut [8] (fun s8 W => ∃ pv', s8 = .int .i64 (1 + L) ∧ Aside0 (NI w0 w code A c bc (w.heap.size + 2) (KK + 2) pv' (.slice none 0 0) (PS ++ [⟨nameG i, 1 + L, 1 + q1, 1 + q2⟩]) [] W) ∧ Aside0 (Kd.R kEnd 67 W (w.heap.size + 2) (fun _ => True) (.slice EA (2 * i) ec) (endsOf i)))
      case first =>
        have hwr1 : IntKind.i64.wrap (1 + q1) = 1 + q1 := wrap64 (by omega) (by omega)
        have hwr2 : IntKind.i64.wrap (1 + q2) = 1 + q2 := wrap64 (by omega) (by omega)
        go_region_law
          (first
            | (rw [if_pos (by rfl)]; go_simp; go_at_call 167; (with_reducible refine Calls.mono (name_any bc i _ (by omega)) ?_); rintro e w6 ⟨rfl, b6⟩; have I6 := Aside0.mk (I5d.out.below b6); have E6 := Aside0.mk (Kd.R_below E5d.out b6); have s6 := I6.out.net.c 0 _ rfl)
            | (rw [if_pos (by rfl)]; go_simp; go_at_call 109; (with_reducible refine Calls.mono (pick_any code A c bc (KK + 1) 90 w0 _ HR.out hg I7.out.b0 hb I7.out.cur (by omega) (by omega)) ?_); rintro e w8 ⟨rfl, hx1, hk1, hb1⟩; rw [← HQ2.out]; rw [pickK_1 (by omega) (by omega)] at hx1; have I8 := Aside0.mk (I7.out.pick hx1 hk1 hb1); have E8 := Aside0.mk (R_keptL E7.out hk1 (by omega)); have s8 := I8.out.net.c 0 _ rfl; have z8 := I8.out.net.lt; clear hx1 hk1 hb1)
            | (rw [if_pos (by rfl)]; go_simp; go_at_call 109; (with_reducible refine Calls.mono (pick_any code A c bc (KK) 200 w0 _ HR.out hg I6.out.b0 hb I6.out.cur (by omega) (by omega)) ?_); rintro e w7 ⟨rfl, hx1, hk1, hb1⟩; rw [← HQ1.out]; rw [pickK_1 (by omega) (by omega)] at hx1; have I7 := Aside0.mk (I6.out.pick hx1 hk1 hb1); have E7 := Aside0.mk (R_keptL E6.out hk1 (by omega)); have s7 := I7.out.net.c 0 _ rfl; clear hx1 hk1 hb1)
            | ((refine Kd.R_append_step kPiece (w0 := w8) (W := w8) (w.heap.size + 2) (by rfl) _ _ 32 78 (.agg #[.string ⟨#[]⟩, .int .i64 0, .int .i64 0, .int .i64 0]) 40 (by rfl) Try.underlying32 info78 rfl (by decide) (by omega) pv PS ⟨nameG i, 1 + L, 1 + q1, 1 + q2⟩ [.string (nameG i), .int .i64 (1 + L), .int .i64 (1 + q1), .int .i64 (1 + q2)] (fun _ => True) (fun _ => False) (by rfl) (by rfl) (kPiece_mkM _ _ _ _) (fun _ hk => hk.elim) (fun _ _ => trivial) I8.out.pr (Below.refl _ _) I8.out.sz (by have := HLL.out; omega) ?_; intro v1 w9 hR9 hB9 hG9 hat9; obtain ⟨pA1, pc1, rfl⟩ := Kd.R_slice hR9; have n9 := I8.out.net.grownB hG9 (fun he => by have := Kd.R_base I8.out.pr _ he.symm; omega); have n90 := n9.c 0 _ rfl; have nf90 := n9.f 0; have nl9 := n9.lt; clear n9; have hR9' := Aside0.mk hR9; have hB9' := Aside0.mk hB9; have hG9' := Aside0.mk hG9; clear hR9 hB9 hG9 hat9)))
        all_goals
          try go_wp2_with fail
          go_meet
          case rel =>
            rw [show (PS ++ [(⟨nameG i, 1 + L, 1 + q1, 1 + q2⟩ : PieceT)]).length = PS.length + 1 by simp] at hR9'
            exact ⟨_, rfl, ⟨I8.out.setP hG9'.out hR9'.out (Kd.R_nil ..) (below_lo I8.out.b0 hB9'.out (by omega))⟩, ⟨R_apart (Kd.R_over E8.out I8.out.pr kEnd_78 hG9'.out) (by show w.heap.size + 1 < _; omega) _⟩⟩
      case rest =>
      clear I5 E5 I5d E5d n5
      obtain ⟨pv', rfl, I9, E9⟩ := hcut
      obtain ⟨W9, hW9⟩ : ∃ W9, W9 = wc.alloc (.cells #[.int .i64 i, .int .i64 0, .int .i64 i, .int .i64 1] 67) := ⟨_, rfl⟩
      have I10 := Aside0.mk (I9.out.alloc (.cells #[.int .i64 i, .int .i64 0, .int .i64 i, .int .i64 1] 67))
      have E10 := Aside0.mk (Kd.R_alloc E9.out (.cells #[.int .i64 i, .int .i64 0, .int .i64 i, .int .i64 1] 67))
      have C10 := Aside0.mk (C_lit2 wc ⟨(i : Int), 0⟩ ⟨(i : Int), 1⟩)
      have hcs := I10.out.sz
      go_wp2_with ((with_reducible refine gate_callG (b := .append) (xs := #[.tmp 50, .tmp 55]) rfl ?_); at_builtin; refine Kd.R_append_rows kEnd (Rr := fun x cs => cs = [.int .i64 x.piece, .int .i64 x.side]) (w0 := wc.alloc (.cells #[.int .i64 i, .int .i64 0, .int .i64 i, .int .i64 1] 67)) (w.heap.size + 2) rfl (.tmp 50) (.tmp 55) 72 67 (.agg #[.int .i64 0, .int .i64 0]) 16 rfl Try.underlying72 info67 rfl (by decide) (by omega) (.slice EA (2 * i) ec) (endsOf i) [⟨(i : Int), 0⟩, ⟨(i : Int), 1⟩] (some ⟨wc.heap.size, 0, none⟩) 2 2 (fun _ => True) (fun _ => False) rfl (by first | (go_simp; done) | (go_simp; rfl)) E10.out C10.out (fun x cs h => by rw [h]; exact kEnd_mkM _ _ _ _) (fun _ hk => hk.elim) (fun _ _ => trivial) (Below.refl _ _) hcs (by rw [endsOf_len]; omega) ?_; intro v1 w11 hR11 hB11 hG11 hat11; obtain ⟨eA1, ec1, rfl⟩ := Kd.R_slice hR11; have hR11' := Aside0.mk hR11; have hB11' := Aside0.mk hB11; have hG11' := Aside0.mk hG11; clear hR11 hB11 hG11 hat11)
      go_roundw
      case rel =>
        have hEl : (endsOf i ++ [(⟨(i : Int), 0⟩ : EndT), ⟨(i : Int), 1⟩]).length = 2 * (i + 1) := by rw [List.length_append, endsOf_len]; simp; omega
        rw [hEl] at hR11'
        have g1 : (genPieces code sm 2 (i + 1)).1 = PS ++ [⟨nameG i, 1 + L, 1 + q1, 1 + q2⟩] := by
          show (genPieces code sm 2 i).1 ++ [(genPiece code sm i (genPieces code sm 2 i).2).1] = _
          rw [← HKK.out, ← HPS.out, HG.out, ← HQ1.out, ← HQ2.out]
        have g2 : (genPieces code sm 2 (i + 1)).2 = KK + 2 := by
          show (genPiece code sm i (genPieces code sm 2 i).2).2 = _
          rw [← HKK.out, HG.out]
        refine ⟨i + 1, eA1, ec1, pv', by go_num, ?_, by omega, ⟨?_⟩, ⟨hR11'.out⟩⟩
        · first | rfl | (rw [hEl]) | (have hl := endsOf_len i; simp; omega)
        · rw [g1, g2]
          exact I10.out.grow hG11'.out (fun g hg => Kd.R_base E10.out g hg) (Kd.R_over I10.out.pr E10.out kPiece_67 hG11'.out) (Kd.R_nil ..) (below_lo I10.out.b0 hB11'.out (by omega))
      case measure => simp [intOf]; omega
    · have hip : i = P := by omega
      subst hip
      obtain ⟨K, hK⟩ : ∃ K, K = (genPieces code sm 2 i).2 := ⟨_, rfl⟩
      obtain ⟨PS, hPS⟩ : ∃ PS, PS = (genPieces code sm 2 i).1 := ⟨_, rfl⟩
      have hkk := HPK.out i
      rw [← hK, ← hPS] at HI
      rw [← hK] at hkk
      have HES := Aside0.mk (show shuf code (2 * i - 1) (endsOf i) K = genEs code by unfold genEs genPs; rw [← HSM.out, ← HP.out, hK])
      have HPS := Aside0.mk (show PS = (netG code).pieces by rw [hPS]; unfold netG genPs; rw [← HSM.out, ← HP.out])
      have hel := endsOf_len i
      obtain ⟨gE, ecap, hEe, hgE, hgl, _⟩ := Kd.R_form HE.out (by rw [hel]; omega)
      rw [hel] at hEe
      obtain ⟨rfl, rfl⟩ : EA = some ⟨gE, 0, none⟩ ∧ ec = ecap := by
        injection hEe with e1 e2 e3
        exact ⟨e1, e3⟩
      clear hEe hK hPS hel
      go_wp2_with fail
      go_loopw [9] (fun v9 wr => ∃ (m k : Nat) (es : List EndT), v9 = .int .i64 (m : Int) ∧ m ≤ 2 * i - 1 ∧ es.length = 2 * i ∧ k + 2 * m ≤ 100 ∧ Aside0 (shuf code m es k = genEs code) ∧ Aside0 (NI w0 w code A c bc (w.heap.size + 2) k pv (.slice none 0 0) PS [] wr) ∧ Aside0 (Kd.R kEnd 67 wr (w.heap.size + 2) (fun _ => True) (.slice (some ⟨gE, 0, none⟩) (2 * i) ec) es)) (fun v9 _ => (intOf v9).toNat)
      case atStart => exact ⟨2 * i - 1, K, endsOf i, by go_num, Nat.le_refl _, endsOf_len i, by omega, HES, HI, HE⟩
      case round =>
        clear HI HE HES
        clear hgl
        obtain ⟨m, k, es, rfl, hm, hel, hkm, HES, HI, HE⟩ := hrel
        by_cases hm0 : 0 < m
        · obtain ⟨m', rfl⟩ : ∃ m', m = m' + 1 := ⟨m - 1, by omega⟩
          have hjl := shufJ_lt code (m' + 1) k
          have hpa := pickV_bd code (n := ((m' + 1 : Nat) : Int) + 1) (by omega) k
          have hpb := pickV_bd code (n := 3) (by omega) (k + 1)
          obtain ⟨q1, hQ1⟩ : ∃ q, q = pickV code (((m' + 1 : Nat) : Int) + 1) k := ⟨_, rfl⟩
          obtain ⟨q2, hQ2⟩ : ∃ q, q = pickV code 3 (k + 1) := ⟨_, rfl⟩
          obtain ⟨J, hJ⟩ : ∃ J, J = shufJ code (m' + 1) k := ⟨_, rfl⟩
          rw [← hQ1] at hpa
          rw [← hQ2] at hpb
          rw [← hJ] at hjl
          have hdv0 : 0 ≤ q1 / (1 + q2) := Int.ediv_nonneg hpa.1 (by omega)
          have hdv1 : q1 / (1 + q2) ≤ q1 := Int.ediv_le_self _ hpa.1
          have hJe : ((m' + 1 : Nat) : Int) - q1 / (1 + q2) = (J : Int) := by
            rw [hJ]; unfold shufJ; rw [← hQ1, ← hQ2]; omega
          have HQ1 := Aside0.mk hQ1
          have HQ2 := Aside0.mk hQ2
          have HJ := Aside0.mk hJ
          have HJE := Aside0.mk hJe
          clear hQ1 hQ2 hJ hJe
          go_wp2_with fail
          refine (pick_any code A c bc k (((m' + 1 : Nat) : Int) + 1) w0 _ HR.out hg HI.out.b0 hb HI.out.cur (by omega) (by omega)).mono ?_
          rintro e w5 ⟨rfl, hx1, hk1, hb1⟩
          rw [← HQ1.out]
          rw [pickK_1 (by omega) (by omega)] at hx1
          have I5 := Aside0.mk (HI.out.pick hx1 hk1 hb1)
          have E5 := Aside0.mk (R_keptL HE.out hk1 (by omega))
          clear hx1 hk1 hb1
          go_wp2_with fail
          refine (pick_any code A c bc (k + 1) 3 w0 _ HR.out hg I5.out.b0 hb I5.out.cur (by omega) (by omega)).mono ?_
          rintro e w6 ⟨rfl, hx1, hk1, hb1⟩
          rw [← HQ2.out]
          rw [pickK_1 (by omega) (by omega)] at hx1
          have I6 := Aside0.mk (I5.out.pick hx1 hk1 hb1)
          have E6 := Aside0.mk (R_keptL E5.out hk1 (by omega))
          clear hx1 hk1 hb1
          have hgl : gE < w6.heap.size := by
            have := Kd.R_lt E6.out gE rfl
            exact this
          obtain ⟨hq_1, hq_2, hC6⟩ := Kd.R_reads' E6.out
          clear hq_1 hq_2
          obtain ⟨ad0, ea0, x0, x1⟩ := at_End hC6 (m' + 1) (by omega)
          obtain ⟨ad1, ea1, y0, y1⟩ := at_End hC6 J (by omega)
          obtain rfl : (⟨gE, 0, none⟩ : Addr) = ad0 := by injection ea0
          obtain rfl : (⟨gE, 0, none⟩ : Addr) = ad1 := by injection ea1
          obtain ⟨⟨xp, xs⟩, hX⟩ : ∃ X, X = es.getD (m' + 1) default := ⟨_, rfl⟩
          obtain ⟨⟨yp, ys⟩, hY⟩ : ∃ X, X = es.getD J default := ⟨_, rfl⟩
          rw [← hX] at x0 x1
          rw [← hY] at y0 y1
          replace x0 : w6.cell? ⟨gE, (m' + 1) * 2, none⟩ = some (.int .i64 xp) := by rw [add_z] at x0; exact x0
          replace x1 : w6.cell? ⟨gE, (m' + 1) * 2 + 1, none⟩ = some (.int .i64 xs) := by rw [add_z] at x1; exact x1
          replace y0 : w6.cell? ⟨gE, J * 2, none⟩ = some (.int .i64 yp) := by rw [add_z] at y0; exact y0
          replace y1 : w6.cell? ⟨gE, J * 2 + 1, none⟩ = some (.int .i64 ys) := by rw [add_z] at y1; exact y1
          have HX := Aside0.mk hX
          have HY := Aside0.mk hY
          have hJe2 : (m' : Int) + 1 - q1 / (1 + q2) = (J : Int) := by have := HJE.out; omega
          have hjm : J < 2 * i := by omega
          have HEL := Aside0.mk hel
          have hsz6 := I6.out.sz
          have I8 := Aside0.mk ((I6.out.alloc (.cells #[.int .i64 xp, .int .i64 xs] 67)).alloc (.cells #[.int .i64 yp, .int .i64 ys] 67))
          have E8 := Aside0.mk (Kd.R_alloc (Kd.R_alloc E6.out (.cells #[.int .i64 xp, .int .i64 xs] 67)) (.cells #[.int .i64 yp, .int .i64 ys] 67))
          have X8 := Aside0.mk ((Bx.new w6 [.int .i64 xp, .int .i64 xs] 67).alloc (.cells #[.int .i64 yp, .int .i64 ys] 67))
          clear hX hY ea0 ea1 hC6
          go_wp2_with (first
            | ((with_reducible refine gate_store (t := 67) (p := 85) rfl ?_); refine store_whole kEnd (w.heap.size + 2) rfl rfl 67 _ _ rfl 67 (m' + 1) es ⟨yp, ys⟩ _ default (fun _ => True) (fun k => k ≠ gE) rfl (by first | rfl | (simp [kEnd, Kd.iso, Kd.pair, Kd.int, Kd.string, Kd.scalar]; done)) rfl (by kernel_rfl) E8.out (by omega) (kEnd_mkM _ _ _ ⟨yp, ys⟩) (fun _ hk => ⟨trivial, hk⟩) (Below.refl _ _) ?_; intro w9 hR9 hB9 hG9; have E9 := Aside0.mk hR9; have G9 := Aside0.mk hG9; have B9 := Aside0.mk hB9; have X9 := Aside0.mk (X8.out.grownB hG9 (fun he => by injection he with he; omega)); clear hR9 hB9 hG9 x0 x1 y0 y1; have x0 := X9.out.c 0 _ rfl; have x1 := X9.out.c 1 _ rfl)
            | ((with_reducible refine gate_store (t := 67) (p := 89) rfl ?_); refine store_whole kEnd (w.heap.size + 2) rfl rfl 67 _ _ rfl 67 J (es.set (m' + 1) ⟨yp, ys⟩) ⟨xp, xs⟩ _ default (fun _ => True) (fun k => k ≠ gE) rfl (by first | rfl | (simp [kEnd, Kd.iso, Kd.pair, Kd.int, Kd.string, Kd.scalar]; done)) rfl (by kernel_rfl) E9.out (by omega) (kEnd_mkM _ _ _ ⟨xp, xs⟩) (fun _ hk => ⟨trivial, hk⟩) (Below.refl _ _) ?_; intro w10 hR10 hB10 hG10; have E10 := Aside0.mk hR10; have G10 := Aside0.mk hG10; have B10 := Aside0.mk hB10; clear hR10 hB10 hG10))
          go_roundw
          case rel =>
            have e1 : swapE es (m' + 1) J = (es.set (m' + 1) ⟨yp, ys⟩).set J ⟨xp, xs⟩ := by unfold swapE; rw [← HX.out, ← HY.out]
            refine ⟨m', k + 2, (es.set (m' + 1) ⟨yp, ys⟩).set J ⟨xp, xs⟩, by go_num, by omega, by rw [List.length_set, List.length_set]; exact HEL.out, by omega, ⟨?_⟩, ⟨?_⟩, ⟨E10.out⟩⟩
            · rw [← HES.out]
              show _ = shuf code m' (swapE es (m' + 1) (shufJ code (m' + 1) k)) (k + 2)
              rw [← HJ.out, e1]
            · have I9 := I8.out.grow G9.out (fun g hg => by have hgg := Option.some.inj hg; omega) (R_typed I8.out.pr E8.out kPiece_67 G9.out) (Kd.R_nil ..) (below_lo I8.out.b0 B9.out (by omega))
              exact I9.grow G10.out (fun g hg => by have hgg := Option.some.inj hg; omega) (R_typed I9.pr E9.out kPiece_67 G10.out) (Kd.R_nil ..) (below_lo I9.b0 B10.out (by omega))
          case measure => first | (simp [intOf]; done) | (simp [intOf]; omega)
        · have hm00 : m = 0 := by omega
          have HPE := Aside0.mk (show es = (genEs code).1 ∧ k = (genEs code).2 by
            have h := HES.out
            rw [hm00] at h
            rw [← h]; exact ⟨rfl, rfl⟩)
          have hk0 : k ≤ 100 := by omega
          clear HES hkm hm hm00
          obtain ⟨H3, hH3⟩ : ∃ H3, H3 = wr.heap.size := ⟨_, rfl⟩
          have hgl := Kd.R_lt HE.out gE rfl
          obtain ⟨hq_1, hcE, hC⟩ := Kd.R_reads' HE.out
          clear hq_1
          rw [hel] at hC
          have HC := Aside0.mk hC
          have I3 : Aside0 (NI w0 w code A c bc H3 k pv (.slice none 0 0) PS [] wr) := ⟨HI.out.cur, HI.out.res, HI.out.net, HI.out.pr, Kd.R_nil .., HI.out.b0, HI.out.kp, by omega, by have := HI.out.sz; omega, HI.out.bl, HI.out.b1⟩
          have HH3 := Aside0.mk hH3
          rw [← hH3] at hgl
          clear hC hH3 HI HE
          go_wp2_with fail
          go_loopw [4] (fun v4 wr => ∃ (rest : List EndT) (A4 : Option Addr) (c4 k f : Nat) (js : List JointT) (jv : Value), v4 = .slice A4 rest.length c4 ∧ rest.length ≤ c4 ∧ rest.length ≤ 2 * i ∧ rest.length ≤ f ∧ k + rest.length ≤ 200 ∧ js.length + rest.length ≤ 18 ∧ Aside0 (js ++ (jts code f rest js.length k).1 = (netG code).joints ∧ (jts code f rest js.length k).2 = (genJs code).2) ∧ Aside0 (∀ ad, A4 = some ad → ad.block = gE) ∧ Aside0 (Kd.C kEnd wr A4 rest.length rest) ∧ Aside0 (NI w0 w code A c bc H3 k pv jv PS js wr)) (fun v4 _ => lenG v4)
          case atStart => exact ⟨es, some ⟨gE, 0, none⟩, ec, k, 2 * i, [], .slice none 0 0, by rw [hel], by rw [hel]; exact hcE, by omega, by omega, by omega, by simp; omega, ⟨by rw [HPE.out.1, HPE.out.2, HP.out]; exact ⟨rfl, rfl⟩⟩, ⟨fun ad h => by cases h <;> rfl⟩, ⟨by rw [hel]; exact HC.out⟩, I3⟩
          case round =>
            clear HC I3 hk0 hcE HPE
            obtain ⟨rest, A4, c4, kk, f, js, jv, rfl, hc4, hr2, hrf, hkr, hjr, HJT, HBL, HC, HI⟩ := hrel
            obtain ⟨jA, jc, rfl⟩ := Kd.R_slice HI.out.jr
            by_cases hlr : 0 < rest.length
            · obtain ⟨f, rfl⟩ : ∃ f', f = f' + 1 := ⟨f - 1, by omega⟩
              have hne : rest ≠ [] := List.length_pos_iff.1 hlr
              have hkd := kindG_bd code hlr kk
              have hp7 := pickV_bd code (n := 7) (by omega) kk
              obtain ⟨pn, hpn⟩ := Int.eq_ofNat_of_zero_le hp7.1
              have hpn7 : pn < 7 := by omega
              have htb := kindTab_at pn hpn7
              obtain ⟨T, hT⟩ : ∃ T, T = kindTab.getD pn 0 := ⟨_, rfl⟩
              rw [← hT] at htb
              have hkg : kindG code rest.length kk = if (rest.length : Int) < T then 1 else T.toNat := by unfold kindG; rw [hpn, Int.toNat_natCast, ← hT]
              obtain ⟨kd, hkdv⟩ : ∃ kd, kd = kindG code rest.length kk := ⟨_, rfl⟩
              rw [← hkdv] at hkd hkg
              have HPN := Aside0.mk hpn
              have HKG := Aside0.mk hkg
              have HKD := Aside0.mk hkdv
              have htv : [Value.int .i64 1, .int .i64 2, .int .i64 2, .int .i64 3, .int .i64 3, .int .i64 3, .int .i64 4][pn]? = some (.int .i64 T) := by
                rw [hT]
                have : pn = 0 ∨ pn = 1 ∨ pn = 2 ∨ pn = 3 ∨ pn = 4 ∨ pn = 5 ∨ pn = 6 := by omega
                rcases this with rfl | rfl | rfl | rfl | rfl | rfl | rfl <;> rfl
              have HTV := Aside0.mk htv
              have HNE := Aside0.mk hne
              have hEH : H3 ≤ wr.heap.size := HI.out.sz
              clear hpn hkg hkdv hT htv hne hp7
              have I4 := Aside0.mk (HI.out.alloc (.cells #[.int .i64 1, .int .i64 2, .int .i64 2, .int .i64 3, .int .i64 3, .int .i64 3, .int .i64 4] 3))
              have X4 := Aside0.mk (Bx.new wr [.int .i64 1, .int .i64 2, .int .i64 2, .int .i64 3, .int .i64 3, .int .i64 3, .int .i64 4] 3)
              have C4 := Aside0.mk (Kd.C_alloc HC.out (.cells #[.int .i64 1, .int .i64 2, .int .i64 2, .int .i64 3, .int .i64 3, .int .i64 3, .int .i64 4] 3))
              have hz4 : (wr.alloc (.cells #[.int .i64 1, .int .i64 2, .int .i64 2, .int .i64 3, .int .i64 3, .int .i64 3, .int .i64 4] 3)).heap.size = wr.heap.size + 1 := by simp
              have HZ4 := Aside0.mk hz4
              clear hz4 HI HC
              go_wp2_with fail
              refine (pick_any code A c bc kk 7 w0 _ HR.out hg I4.out.b0 hb I4.out.cur (by omega) (by omega)).mono ?_
              rintro e w5 ⟨rfl, hx1, hk1, hb1⟩
              rw [HPN.out]
              rw [pickK_1 (by omega) (by omega)] at hx1
              have I5 := Aside0.mk (I4.out.pick hx1 hk1 hb1)
              have X5 := Aside0.mk (X4.out.kept hk1 (by omega))
              have C5 : Aside0 (Kd.C kEnd w5 A4 rest.length rest) := ⟨C_same (fun h => h) C4.out (fun ad h _ => by rw [HBL.out ad h]; exact hk1.2 gE (by have := HZ4.out; omega) (by omega) (by simp))⟩
              have x5 := X5.out.c pn _ HTV.out
              clear hx1 hk1 hb1 I4 X4 C4 HZ4 HPN
              go_upto_if 101 with (fail)
              go_cut [13] (fun s13 W => s13 = .int .i64 (kd : Int) ∧ w5 = W)
              case first =>
                by_cases hgt : (rest.length : Int) < T
                · have e : (kd : Int) = 1 := by rw [HKG.out, if_pos hgt]; rfl
                  have HE1 := Aside0.mk e
                  clear e
                  go_wp2_with fail
                  go_meet
                  case rel => exact ⟨by rw [HE1.out], rfl⟩
                · have e : (kd : Int) = T := by rw [HKG.out, if_neg hgt]; omega
                  have HE1 := Aside0.mk e
                  clear e
                  go_wp2_with fail
                  go_meet
                  case rel => exact ⟨by rw [HE1.out], rfl⟩
              case rest =>
              obtain ⟨rfl, rfl⟩ := hcut
              clear x5 htb HTV HKG
              obtain ⟨gj, hgj⟩ : ∃ g, g = w5.heap.size := ⟨_, rfl⟩
              have HGJ := Aside0.mk hgj
              have J6 : Aside0 (Bx (w5.alloc (.cells #[.int .i64 kd, .string ⟨#[]⟩, .slice none 0 0] 139)) gj [.int .i64 kd, .string ⟨#[]⟩, .slice none 0 0]) := ⟨Bx.new' _ _ _ hgj⟩
              have hgj3 : H3 ≤ gj := by rw [hgj]; exact I5.out.sz
              have hjb : ∀ g, (Value.slice jA js.length jc).ownBlock = some g → g < gj := fun g hg => by rw [hgj]; exact Kd.R_lt I5.out.jr g hg
              have HJB := Aside0.mk hjb
              have B6 : Aside0 (Below w5.heap.size w5 (w5.alloc (.cells #[.int .i64 kd, .string ⟨#[]⟩, .slice none 0 0] 139))) := ⟨below_alloc (Below.refl _ _) _⟩
              clear hgj hjb
              go_wp2_with fail
              try rw [← HGJ.out]
              obtain ⟨wo, rfl⟩ : ∃ wo : World, wo = wr := ⟨_, rfl⟩
              go_loopw [15] (fun v15 wr => ∃ (x : Nat) (EJ : Option Addr) (cJ : Nat), v15 = .int .i64 (x : Int) ∧ x ≤ kd ∧ gj < wr.heap.size ∧ Aside0 (Bx wr gj [.int .i64 kd, .string ⟨#[]⟩, .slice EJ x cJ]) ∧ Aside0 (Kd.R kEnd 67 wr (gj + 1) (fun _ => True) (.slice EJ x cJ) (rest.take x)) ∧ Aside0 (Below w5.heap.size w5 wr)) (fun v15 _ => kd - (intOf v15).toNat)
              case atStart => exact ⟨0, none, 0, rfl, by omega, J6.out.lt, J6, ⟨by simp; exact Kd.R_nil ..⟩, B6⟩
              case round =>
                clear J6 B6
                obtain ⟨x, EJ, cJ, rfl, hxk, hgl3, J6, R6, B6⟩ := hrel
                by_cases hlx : x < kd
                · have hxr : x < rest.length := by omega
                  have hxi0 : (0 : Int) ≤ (x : Int) := by omega
                  have hxi1 : (x : Int) < (rest.length : Int) := by omega
                  obtain ⟨ad0, e0, y0, y1⟩ := at_End (Kd.C_below C5.out B6.out) x hxr
                  subst e0
                  obtain ⟨⟨ep, es2⟩, hE⟩ : ∃ X, X = rest.getD x default := ⟨_, rfl⟩
                  rw [← hE] at y0 y1
                  have HEE := Aside0.mk hE
                  have j2 := J6.out.c 2 _ rfl
                  have hgE2 : ad0.block = gE := HBL.out ad0 rfl
                  have hgEw : gE < w5.heap.size := by have := I5.out.sz; omega
                  have hgEs : gE < wr.heap.size := by have := B6.out.size; omega
                  have hlenx : (rest.take x).length = x := by rw [List.length_take]; omega
                  have HLX := Aside0.mk hlenx
                  have HL9 : Aside0 ((rest.take x ++ [(⟨ep, es2⟩ : EndT)]).length = x + 1) := ⟨by rw [List.length_append, hlenx]; rfl⟩
                  clear hE hlenx
                  go_upto_block 7 with (fail)
                  go_cut [15] (fun s15 W => ∃ (EJ' : Option Addr) (cJ' : Nat), s15 = .int .i64 (x : Int) ∧ gj < W.heap.size ∧ Aside0 (Bx W gj [.int .i64 kd, .string ⟨#[]⟩, .slice EJ' (x + 1) cJ']) ∧ Aside0 (Kd.R kEnd 67 W (gj + 1) (fun _ => True) (.slice EJ' (x + 1) cJ') (rest.take (x + 1))) ∧ Aside0 (Below w5.heap.size w5 W))
                  case first =>
                    go_wp2_with fail
                    go_region_law
                      ((refine Kd.R_append_step kEnd (w0 := wr.drew) (W := wr.drew) (gj + 1) (by rfl) _ _ 72 67 (.agg #[.int .i64 0, .int .i64 0]) 16 (by rfl) Try.underlying72 info67 rfl (by decide) (by omega) (.slice EJ x cJ) (rest.take x) ⟨ep, es2⟩ [.int .i64 ep, .int .i64 es2] (fun _ => True) (fun _ => False) (by rfl) (by rfl) (kEnd_mkM _ _ _ ⟨ep, es2⟩) (fun _ hk => hk.elim) (fun _ _ => trivial) (Kd.R_drew R6.out) (Below.refl _ _) (by show gj + 1 ≤ wr.heap.size; omega) (by rw [HLX.out]; omega) ?_; intro v1 w9 hR9 hB9 hG9 hat9; obtain ⟨pA1, pc1, hv9⟩ := Kd.R_slice hR9; rw [HL9.out] at hv9; subst hv9; have n9 := J6.out.drew.grownB hG9 (fun he => by have := Kd.R_base R6.out _ he.symm; omega); have j20 := n9.c 2 _ rfl; have jf2 := n9.f 2; have jl9 := n9.lt; have N9 := Aside0.mk n9; have hR9' := Aside0.mk hR9; have hB9' := Aside0.mk hB9; have hG9' := Aside0.mk hG9; clear hR9 hB9 hG9 hat9 n9))
                    all_goals
                      try go_wp2_with fail
                      go_meet
                      case rel =>
                        have ht9 : rest.take (x + 1) = rest.take x ++ [(⟨ep, es2⟩ : EndT)] := by rw [take_getD _ _ hxr, ← HEE.out]
                        rw [ht9]
                        refine ⟨pA1, pc1, rfl, ?_, ⟨?_⟩, ⟨R_apart hR9'.out (by show gj < gj + 1; omega) _⟩, ⟨?_⟩⟩
                        · rw [setCell_sz]; exact jl9
                        · exact N9.out.set (i := 2) (by simp) _
                        · exact below_set (below_lo (below_drew B6.out) hB9'.out (by have := HGJ.out; omega)) (by have := HGJ.out; omega)
                  case rest =>
                  obtain ⟨EJ', cJ', rfl, hgl4, J7, R7, B7⟩ := hcut
                  go_wp2_with fail
                  go_roundw
                  case rel => exact ⟨x + 1, EJ', cJ', by go_num, by omega, hgl4, J7, R7, B7⟩
                  case measure => simp [intOf]; omega
                · have hxe : x = kd := by omega
                  subst hxe
                  obtain ⟨nm, hnm⟩ : ∃ nm, nm = (if 3 ≤ x then nameG (100 + js.length) else ⟨#[]⟩) := ⟨_, rfl⟩
                  have HNM := Aside0.mk hnm
                  clear hnm
                  go_upto_if 119 with (fail)
                  go_cut [13] (fun s13 W => s13 = .int .i64 (x : Int) ∧ gj < W.heap.size ∧ Aside0 (Bx W gj [.int .i64 x, .string nm, .slice EJ x cJ]) ∧ Aside0 (Kd.R kEnd 67 W (gj + 1) (fun _ => True) (.slice EJ x cJ) (rest.take x)) ∧ Aside0 (Below w5.heap.size w5 W))
                  case first =>
                    have HGJ5 := HGJ
                    have N6 := Aside0.mk (I5.out.below B6.out).net
                    have n1 := N6.out.c 1 _ rfl
                    by_cases h3 : 3 ≤ x
                    · have e : nm = nameG (100 + js.length) := by rw [HNM.out, if_pos h3]
                      have HE3 := Aside0.mk e
                      clear e
                      have jl := J6.out.lt
                      go_wp2_with fail
                      refine (name_anyI bc (100 + js.length) _ _ (by omega) (by omega)).mono ?_
                      rintro e w7 ⟨rfl, b7⟩
                      have J7 := Aside0.mk (J6.out.below b7)
                      have R7 := Aside0.mk (Kd.R_below R6.out b7)
                      have B7 := Aside0.mk (below_lo B6.out b7 (by have := B6.out.size; omega))
                      have j0 := J7.out.c 0 _ rfl; have j1 := J7.out.c 1 _ rfl; have j2 := J7.out.c 2 _ rfl; have jf1 := J7.out.f 1; have jl7 := J7.out.lt
                      clear b7
                      go_wp2_with fail
                      go_meet
                      case rel =>
                        refine ⟨rfl, by rw [setCell_sz]; exact jl7, ⟨by rw [HE3.out]; exact J7.out.set (i := 1) (by simp) _⟩, ⟨R_apart R7.out (by show gj < gj + 1; omega) _⟩, ⟨below_set B7.out (by have := HGJ5.out; omega)⟩⟩
                    · have e : nm = ⟨#[]⟩ := by rw [HNM.out, if_neg h3]
                      have HE3 := Aside0.mk e
                      clear e
                      go_wp2_with fail
                      go_meet
                      case rel => exact ⟨rfl, hgl3, ⟨by rw [HE3.out]; exact J6.out⟩, R6, B6⟩
                  case rest =>
                  obtain ⟨rfl, hgl8, J8, R8, B8⟩ := hcut
                  obtain ⟨W8, hW8⟩ : ∃ W8, W8 = wc := ⟨_, rfl⟩
                  have I8 := Aside0.mk (I5.out.below B8.out)
                  have C8 := Aside0.mk (Kd.C_below C5.out B8.out)
                  have n0 := I8.out.net.c 0 _ rfl
                  have n1 := I8.out.net.c 1 _ rfl
                  have nf1 := I8.out.net.f 1
                  have j0 := J8.out.c 0 _ rfl; have j1 := J8.out.c 1 _ rfl; have j2 := J8.out.c 2 _ rfl
                  obtain ⟨adE, eE⟩ := C_some C5.out (by omega)
                  subst eE
                  have hadE : adE.block = gE := HBL.out adE rfl
                  have RJ : Aside0 (kEnd.R 67 wc H3 (fun g => gj < g) (.slice EJ x cJ) (rest.take x)) := ⟨Kd.R_lower (Kd.R_mono (Kd.R_bound R8.out) (fun g hg => by have h2 := hg.2.1; show gj < g; omega)) (by omega)⟩
                  have HL10 : Aside0 ((js ++ [(⟨(x : Int), nm, rest.take x⟩ : JointT)]).length = js.length + 1) := ⟨by simp⟩
                  have hjs18 : (js.length + 1) * 48 ≤ 140737488355328 := by omega
                  have hjj : ∀ g, gj < g → True ∧ some g ≠ (Value.slice jA js.length jc).ownBlock := fun g hg => ⟨trivial, fun he => by have := HJB.out g he.symm; omega⟩
                  have HJJ := Aside0.mk hjj
                  clear hjj
                  by_cases hck : c4 = x
                  · subst c4
                    go_wp2_with ((with_reducible refine gate_callG (b := .append) (xs := #[.tmp 128, .tmp 130]) rfl ?_); at_builtin; refine Kd.R_append (kJoint 67) (w0 := wc) H3 rfl (.tmp 128) (.tmp 130) 33 139 (.agg #[.int .i64 0, .string ⟨#[]⟩, .slice none 0 0]) 48 rfl Try.underlying33 info139 rfl (by decide) (by omega) (.slice jA js.length jc) js ⟨x, nm, rest.take x⟩ [.int .i64 x, .string nm, .slice EJ x cJ] (fun _ => True) (fun g => gj < g) rfl (by first | (go_simp; done) | (go_simp; rfl)) (kJoint_mkM _ _ _ ⟨x, nm, rest.take x⟩ RJ.out) HJJ.out (fun _ _ => trivial) I8.out.jr (Below.refl _ _) I8.out.sz hjs18 ?_; intro v1 w10 hR10 hB10 hG10 hat10; obtain ⟨jA1, jc1, hv10⟩ := Kd.R_slice hR10; rw [HL10.out] at hv10; subst hv10; have n10 := I8.out.net.grownB hG10 (fun he => by have := Kd.R_base I8.out.jr _ he.symm; omega); clear n0 n1 nf1 j0 j1 j2; have n1 := n10.c 1 _ rfl; have nf1 := n10.f 1; have nl10 := n10.lt; have hR10' := Aside0.mk hR10; have hB10' := Aside0.mk hB10; have hG10' := Aside0.mk hG10; clear hR10 hB10 hG10 hat10 n10)
                    go_roundw
                    case rel =>
                      have hjt := HJT.out
                      simp only [jts, if_neg HNE.out] at hjt
                      rw [← HKD.out] at hjt
                      have hjg : jointG code rest js.length kk = ⟨x, nm, rest.take x⟩ := by unfold jointG; rw [← HKD.out, ← HNM.out]
                      rw [hjg] at hjt
                      have hdl : (rest.drop x).length = rest.length - x := List.length_drop
                      have hcd := Kd.C_drop C8.out (m := x) (c := x) (by omega) hc4
                      have hblk := blk_of (adE := adE) (g := gE) (c := x) (x := x) (m := x * kEnd.sz) none hadE
                      have hgE8 : gE < wc.heap.size := by have := I8.out.sz; omega
                      refine ⟨rest.drop x, (if x = x then some adE else (some adE).map (·.add (x * kEnd.sz))), x - x, kk + 1, f, js ++ [⟨x, nm, rest.take x⟩], .slice jA1 (js.length + 1) jc1, ?_, by omega, by omega, by omega, by omega, by simp; omega, ⟨?_⟩, ⟨hblk⟩, ⟨?_⟩, ⟨?_⟩⟩
                      · rw [hdl]
                        rw [if_pos rfl, show rest.length - x = 0 by omega, Nat.sub_self]
                      · rw [List.append_assoc, List.length_append]
                        exact hjt
                      · refine C_same (fun h => h) hcd (fun ad h _ => ?_)
                        rw [hblk ad h]
                        exact (Below.heap_setCell w10 _ _ gE (by show gE ≠ w.heap.size + 1; omega)).trans (hG10'.out.block gE hgE8 (fun he => by have := Kd.R_base I8.out.jr gE he.symm; omega))
                      · exact I8.out.setJ hG10'.out (Kd.R_over I8.out.pr I8.out.jr kPiece_139 hG10'.out) hR10'.out (below_lo I8.out.b0 hB10'.out (by omega))
                    case measure => first | (simp [lenG]; done) | (simp [lenG]; omega)
                  · skip
                    go_wp2_with ((with_reducible refine gate_callG (b := .append) (xs := #[.tmp 128, .tmp 130]) rfl ?_); at_builtin; refine Kd.R_append (kJoint 67) (w0 := wc) H3 rfl (.tmp 128) (.tmp 130) 33 139 (.agg #[.int .i64 0, .string ⟨#[]⟩, .slice none 0 0]) 48 rfl Try.underlying33 info139 rfl (by decide) (by omega) (.slice jA js.length jc) js ⟨x, nm, rest.take x⟩ [.int .i64 x, .string nm, .slice EJ x cJ] (fun _ => True) (fun g => gj < g) rfl (by first | (go_simp; done) | (go_simp; rfl)) (kJoint_mkM _ _ _ ⟨x, nm, rest.take x⟩ RJ.out) HJJ.out (fun _ _ => trivial) I8.out.jr (Below.refl _ _) I8.out.sz hjs18 ?_; intro v1 w10 hR10 hB10 hG10 hat10; obtain ⟨jA1, jc1, hv10⟩ := Kd.R_slice hR10; rw [HL10.out] at hv10; subst hv10; have n10 := I8.out.net.grownB hG10 (fun he => by have := Kd.R_base I8.out.jr _ he.symm; omega); clear n0 n1 nf1 j0 j1 j2; have n1 := n10.c 1 _ rfl; have nf1 := n10.f 1; have nl10 := n10.lt; have hR10' := Aside0.mk hR10; have hB10' := Aside0.mk hB10; have hG10' := Aside0.mk hG10; clear hR10 hB10 hG10 hat10 n10)
                    go_roundw
                    case rel =>
                      have hjt := HJT.out
                      simp only [jts, if_neg HNE.out] at hjt
                      rw [← HKD.out] at hjt
                      have hjg : jointG code rest js.length kk = ⟨x, nm, rest.take x⟩ := by unfold jointG; rw [← HKD.out, ← HNM.out]
                      rw [hjg] at hjt
                      have hdl : (rest.drop x).length = rest.length - x := List.length_drop
                      have hcd := Kd.C_drop C8.out (m := x) (c := c4) (by omega) hc4
                      have hblk := blk_of (adE := adE) (g := gE) (c := c4) (x := x) (m := x * kEnd.sz) none hadE
                      have hgE8 : gE < wc.heap.size := by have := I8.out.sz; omega
                      refine ⟨rest.drop x, (if c4 = x then some adE else (some adE).map (·.add (x * kEnd.sz))), c4 - x, kk + 1, f, js ++ [⟨x, nm, rest.take x⟩], .slice jA1 (js.length + 1) jc1, ?_, by omega, by omega, by omega, by omega, by simp; omega, ⟨?_⟩, ⟨hblk⟩, ⟨?_⟩, ⟨?_⟩⟩
                      · rw [hdl]
                        rw [if_neg hck]; rfl
                      · rw [List.append_assoc, List.length_append]
                        exact hjt
                      · refine C_same (fun h => h) hcd (fun ad h _ => ?_)
                        rw [hblk ad h]
                        exact (Below.heap_setCell w10 _ _ gE (by show gE ≠ w.heap.size + 1; omega)).trans (hG10'.out.block gE hgE8 (fun he => by have := Kd.R_base I8.out.jr gE he.symm; omega))
                      · exact I8.out.setJ hG10'.out (Kd.R_over I8.out.pr I8.out.jr kPiece_139 hG10'.out) hR10'.out (below_lo I8.out.b0 hB10'.out (by omega))
                    case measure => first | (simp [lenG]; done) | (simp [lenG]; omega)
            · have hr0 : rest = [] := List.length_eq_zero_iff.1 (by omega)
              subst hr0
              obtain ⟨pA, pc, rfl⟩ := Kd.R_slice HI.out.pr
              have hj0 : (jts code f [] js.length kk) = ([], kk) := by cases f <;> simp [jts]
              have hjt := HJT.out
              rw [hj0, List.append_nil] at hjt
              have HJ2 := Aside0.mk hjt
              have n0 := HI.out.net.c 0 _ rfl; have n1 := HI.out.net.c 1 _ rfl
              have z0 := HI.out.res.c 0 _ rfl; have z1 := HI.out.res.c 1 _ rfl; have zf0 := HI.out.res.f 0; have zf1 := HI.out.res.f 1; have zlt := HI.out.res.lt
              have hb1 := HI.out.b1; have hbl := HI.out.bl
              clear hjt hj0
              go_wp2_with fail
              refine bodyPost_ret (v := .agg #[.slice pA PS.length pc, .slice jA js.length jc]) (by simp [results, Try.results108, go_sem, z0, z1, zf0, zf1, zlt]) rfl ⟨.slice pA PS.length pc, .slice jA js.length jc, rfl, ?_, ?_, ?_, ?_, ?_⟩
              · rw [← HPS.out]
                exact Kd.R_lower (R_apart (R_apart HI.out.pr (by show w.heap.size < _; omega) _) (by show w.heap.size < _; omega) _) (by omega)
              · rw [← HJ2.out.1]
                exact Kd.R_lower (R_apart (R_apart HI.out.jr (by show w.heap.size < _; omega) _) (by show w.heap.size < _; omega) _) (by omega)
              · rw [← HJ2.out.2]
                exact (HI.out.cur.far (by omega) _).far (by omega) _
              · exact keep_far (keep_far HI.out.kp (Nat.le_refl _) _) (Nat.le_refl _) _
              · exact Below.setCell (Below.setCell HI.out.b0 (by show w0.heap.size ≤ w.heap.size; omega) _) (by show w0.heap.size ≤ w.heap.size; omega) _
end Go.Proofs.Ytckcffjnffcjcaa
