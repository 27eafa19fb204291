/- Texts of this work, of each what the claim leans on: ShLaw, ReachLaw, ReachV, ReachP, RchL, RchX, RchG, RchH, CostL, Cost1, RchLay, RchS, ShrtL, LpL, From1, From2, FromS, FromT. No conditions. -/
import Derived.Test.YtckcffjnffcjcaaVSh8
import Derived.Laws.IdiomRangeMap
import Derived.Outline
import Derived.Shelf.SlSortCmp.NoneTotal
import Derived.Shelf.SlicesG.Cmp
import Derived.Shelf.Small.Bits
import Derived.Test.YtckcffjnffcjcaaProg
set_option linter.unusedVariables false
set_option linter.unusedSimpArgs false
namespace Go.Proofs.Ytckcffjnffcjcaa
theorem short_drive {n : NetT} {lies : List Int} {a b : SpotT} {far : Int} (hb : spotB n b = true) (hc : (driveR n lies a far).code = 0) (hs : (driveR n lies a far).spot = b) : (shortV n a b).ok = true ∧ (shortV n a b).far ≤ far := by
  cases hgo : goB n lies a far with
  | false => rw [driveR_bad hgo] at hc; cases hc
  | true =>
    obtain ⟨hg, hl, ha, h0, h1⟩ := goB_is hgo
    have hgd : netGood n = true := by
      unfold goB at hgo
      simp only [Bool.and_eq_true] at hgo
      exact hgo.1.1.1
    have hf := (top_far hgd hl ha h0 h1 hc).1
    rw [driveR_good hgo] at hc hs hf
    by_cases hz : far = 0
    · subst hz
      have hr := roomS_bd hg ha
      have hlg : legOf n a 0 = 0 := by unfold legOf; omega
      have hst : stopAt n lies a 0 = some (0, -1) := by unfold stopAt; rw [hlg, if_pos (by omega)]
      rw [drv_stop hst, hlg] at hs
      simp only at hs
      exact short_le hg ha hb (.inl ⟨hs.symm, by omega, by omega⟩)
    · obtain ⟨m, _, hL⟩ := drv_leg hg hl 1000 a far ha (by omega) (.inr (by rw [hf]; exact hz))
      rw [hf, hs] at hL
      exact short_le hg ha hb (leg_walk hg hl hL ha)
theorem addLie_mem {out o : List LieT} {x : LieT} (h : addLie out x = some o) : ∀ y ∈ o, y ∈ out ∨ y = x := by
  intro y hy
  unfold addLie at h
  split at h
  · cases h
  · split at h
    · injection h with h; subst h; exact .inl hy
    · injection h with h
      subst h
      rcases List.mem_append.1 hy with h | h
      · exact .inl h
      · exact .inr (by simpa using h)
theorem liesGo_joint {n : NetT} (hg : Good n) : ∀ (l : List StepT) (s : StepT) (out o : List LieT), stepB n s = true → (∀ t ∈ l, stepB n t = true) → (∀ x ∈ out, 0 ≤ x.joint ∧ x.joint < (n.joints.length : Int)) → liesGo n s l out = some o → ∀ x ∈ o, 0 ≤ x.joint ∧ x.joint < (n.joints.length : Int)
  | [], s, out, o, _, _, hi, h => by
    simp only [liesGo] at h
    injection h with h
    subst h
    exact hi
  | t :: l, s, out, o, hs, hl, hi, h => by
    have ht := hl t (by simp)
    have hl2 : ∀ u ∈ l, stepB n u = true := fun u hu => hl u (by simp [hu])
    simp only [liesGo] at h
    split at h
    · cases h
    · exact liesGo_joint hg l t out o ht hl2 hi h
    · rename_i x hx
      split at h
      · cases h
      · rename_i o' ho'
        refine liesGo_joint hg l t o' o ht hl2 (fun y hy => ?_) h
        rcases addLie_mem ho' y hy with hy | rfl
        · exact hi y hy
        · unfold stepLie at hx
          split at hx
          · split at hx
            · injection hx with hx
              injection hx with hx
              subst hx
              obtain ⟨i, q, hat⟩ := hg.at_ (lookS_ok hs)
              have h1 := hat.hi
              have h2 := hat.i
              simp only
              omega
            · cases hx
          · cases hx
theorem short_joints {n : NetT} (hg : Good n) {a b : SpotT} (ha : spotB n a = true) : ∀ x ∈ (shortV n a b).lies, 0 ≤ x.joint ∧ x.joint < (n.joints.length : Int) := by
  cases hok : (shortV n a b).ok with
  | false => rw [short_no hok]; intro x hx; cases hx
  | true =>
    obtain ⟨h1, h2⟩ := short_steps hg ha hok
    rw [h2]
    unfold plV
    rw [if_pos h1]
    have hall : ∀ t ∈ (shortV n a b).steps, stepB n t = true := by
      unfold stepsB at h1
      simp only [Bool.and_eq_true, List.all_eq_true] at h1
      exact h1.2
    cases hli : liesAll n (shortV n a b).steps with
    | none => intro x hx; cases hx
    | some o =>
      show ∀ x ∈ o, _
      cases hst : (shortV n a b).steps with
      | nil => rw [hst] at hli; simp only [liesAll] at hli; injection hli with hli; subst hli; intro x hx; cases hx
      | cons s l =>
        rw [hst] at hli hall
        exact liesGo_joint hg l s [] o (hall s (by simp)) (fun t ht => hall t (by simp [ht])) (fun x hx => by cases hx) hli
end Go.Proofs.Ytckcffjnffcjcaa
namespace Go.Proofs.Ytckcffjnffcjcaa
abbrev ItemT := SpotT × Int
def spotLt (a b : SpotT) : Bool := decide (a.piece < b.piece ∨ a.piece = b.piece ∧ (a.at_ < b.at_ ∨ a.at_ = b.at_ ∧ a.way < b.way))
theorem spotLt_iff {a b : SpotT} : spotLt a b = true ↔ (a.piece < b.piece ∨ a.piece = b.piece ∧ (a.at_ < b.at_ ∨ a.at_ = b.at_ ∧ a.way < b.way)) := by unfold spotLt; simp
theorem spotLt_total {a b : SpotT} (h : a ≠ b) : spotLt a b = true ∨ spotLt b a = true := by
  rw [spotLt_iff, spotLt_iff]
  by_cases h1 : a.piece = b.piece
  · by_cases h2 : a.at_ = b.at_
    · have : a.way ≠ b.way := fun h3 => h (SpotT.ext_iff.1 ⟨h1, h2, h3⟩)
      omega
    · omega
  · omega
theorem spotLt_irrefl (a : SpotT) : spotLt a a = false := by unfold spotLt; simp
theorem spotLt_trans {a b c : SpotT} (h : spotLt a b = true) (h2 : spotLt b c = true) : spotLt a c = true := by
  rw [spotLt_iff] at *; omega
theorem sorted_unique : ∀ {l m : List SpotT}, l.Pairwise (fun a b => spotLt a b = true) → m.Pairwise (fun a b => spotLt a b = true) → (∀ x, x ∈ l ↔ x ∈ m) → l = m
  | [], [], _, _, _ => rfl
  | [], b :: m, _, _, h => absurd ((h b).2 (by simp)) (by simp)
  | a :: l, [], _, _, h => absurd ((h a).1 (by simp)) (by simp)
  | a :: l, b :: m, hl, hm, h => by
    rw [List.pairwise_cons] at hl hm
    have hab : a = b := by
      rcases List.mem_cons.1 ((h a).1 (by simp)) with e | e
      · exact e
      · rcases List.mem_cons.1 ((h b).2 (by simp)) with e2 | e2
        · exact e2.symm
        · have := spotLt_trans (hm.1 a e) (hl.1 b e2)
          rw [spotLt_irrefl] at this; cases this
    subst hab
    congr 1
    refine sorted_unique hl.2 hm.2 fun x => ?_
    have hna : ∀ {k : List SpotT}, (∀ b ∈ k, spotLt a b = true) → a ∉ k := fun hk hmem => by
      have := hk a hmem
      rw [spotLt_irrefl] at this; cases this
    constructor
    · intro hx
      rcases List.mem_cons.1 ((h x).1 (by simp [hx])) with rfl | e
      · exact absurd hx (hna hl.1)
      · exact e
    · intro hx
      rcases List.mem_cons.1 ((h x).2 (by simp [hx])) with rfl | e
      · exact absurd hx (hna hm.1)
      · exact e
end Go.Proofs.Ytckcffjnffcjcaa
namespace Go.Proofs.Ytckcffjnffcjcaa
def sortS (l : List SpotT) : List SpotT := l.mergeSort (fun a b => !spotLt b a)
theorem sortS_mem (l : List SpotT) (x : SpotT) : x ∈ sortS l ↔ x ∈ l := (List.mergeSort_perm l _).mem_iff
theorem spotLt_asymm {a b : SpotT} (h : spotLt a b = true) : spotLt b a = false := by
  rw [Bool.eq_false_iff]; intro h2
  have := spotLt_trans h h2
  rw [spotLt_irrefl] at this; cases this
theorem sortS_sorted {l : List SpotT} (h : l.Nodup) : (sortS l).Pairwise (fun a b => spotLt a b = true) := by
  have h1 : (sortS l).Pairwise (fun a b => (!spotLt b a) = true) := List.pairwise_mergeSort (fun a b c hab hbc => by
      simp only [Bool.not_eq_true'] at hab hbc ⊢
      rw [Bool.eq_false_iff] at hab hbc ⊢
      rw [ne_eq, spotLt_iff] at *
      omega) (fun a b => by
      by_cases e : a = b
      · subst e; rw [spotLt_irrefl]; rfl
      · rcases spotLt_total e with h | h
        · rw [spotLt_asymm h]; rfl
        · rw [spotLt_asymm h]; simp) l
  have h2 : (sortS l).Nodup := (List.mergeSort_perm l _).nodup_iff.2 h
  refine (h1.and h2).imp fun {a b} hab => ?_
  rcases spotLt_total hab.2 with h | h
  · exact h
  · rw [h] at hab; simp at hab
theorem sortS_eq {l m : List SpotT} (hl : l.Nodup) (hm : m.Pairwise (fun a b => spotLt a b = true)) (h : ∀ x, x ∈ m ↔ x ∈ l) : m = sortS l :=
  sorted_unique hm (sortS_sorted hl) (fun x => by rw [sortS_mem]; exact h x)
end Go.Proofs.Ytckcffjnffcjcaa
namespace Go.Proofs.Ytckcffjnffcjcaa
structure SI (out : List SpotT) (i k : Nat) (l : List SpotT) : Prop where
  p : l.Perm out
  ki : k ≤ i
  il : i < l.length
  rest : ∀ a b, a < b → b ≤ i → a ≠ k → b ≠ k → spotLt (l.getD a default) (l.getD b default) = true
  own : ∀ b, k < b → b ≤ i → spotLt (l.getD k default) (l.getD b default) = true
def SO (out : List SpotT) (i : Nat) (l : List SpotT) : Prop := l.Perm out ∧ ∀ a b, a < b → b < i → spotLt (l.getD a default) (l.getD b default) = true
theorem SO.all {out l : List SpotT} {i : Nat} (h : SO out i l) (hn : out.Nodup) (hi : l.length ≤ i) : l = sortS out := by
  refine sortS_eq hn ?_ (fun x => h.1.mem_iff)
  rw [List.pairwise_iff_getElem]
  intro a b ha hb hab
  have := h.2 a b hab (by omega)
  rwa [getD_at _ a ha, getD_at _ b hb] at this
end Go.Proofs.Ytckcffjnffcjcaa
namespace Go.Proofs.Ytckcffjnffcjcaa
open Go.RowKit Go.Proofs.YtckcffjnffcjcaaW.PrintWords
theorem acrossJ_few (j : JointT) (q : Nat) : (acrossJ j q).length ≤ 2 := by
  unfold acrossJ
  split
  · simp
  · split
    · split <;> simp
    · split <;> simp
end Go.Proofs.Ytckcffjnffcjcaa
namespace Go.Proofs.Ytckcffjnffcjcaa
open Go.RowKit Go.Proofs.YtckcffjnffcjcaaW.PrintWords
def hR (x : ItemT) : HdrT := (x.1.piece, x.1.at_, x.1.way, x.2, (none, 0, 0))
theorem below_low {a b : Nat} {w w1 w2 : World} (h : Below a w w1) (k : Below b w1 w2) (hab : a ≤ b) : Below a w w2 :=
  h.trans ⟨k.os, k.tape, k.output, k.size, fun i hi => k.block i (Nat.lt_of_lt_of_le hi hab)⟩
structure RX (w : World) (nv : List Value) (B xb : Nat) (W : World) (v7 v10 vl : Value) (out : List SpotT) (next line : List ItemT) : Prop where
  net : Bx W w.heap.size nv
  o : kSpot.R 38 W (w.heap.size + 2) (fun k => k ≠ xb) v7 out
  nx : kHdr.R 172 W B (fun k => k ≠ xb) v10 (next.map hR)
  l : kHdr.R 172 W (w.heap.size + 2) (fun k => k < B) vl (line.map hR)
  b0 : Below w.heap.size w W
  hB : w.heap.size + 2 ≤ B
  hW : B ≤ W.heap.size
structure RY (w : World) (nv : List Value) (B xb : Nat) (cv : List Value) (eb : Nat) (ve : Value) (E : List EndT) (W : World) (v7 v10 vl : Value) (out : List SpotT) (next line : List ItemT) : Prop where
  rx : RX w nv B xb W v7 v10 vl out next line
  c : Bx W xb cv
  e : kEnd.R 67 W eb (fun _ => True) ve E
end Go.Proofs.Ytckcffjnffcjcaa
namespace Go.Proofs.Ytckcffjnffcjcaa
open Go.RowKit Go.Proofs.YtckcffjnffcjcaaW.PrintWords
theorem eq_keyGo (a b : ItemT) (w : World) : (Op.equal 192 (.agg #[.int .i64 a.1.piece, .int .i64 a.1.at_, .int .i64 a.1.way, .int .i64 a.2]) (.agg #[.int .i64 b.1.piece, .int .i64 b.1.at_, .int .i64 b.1.way, .int .i64 b.2])).run Try.prog w = .ok (((a.1.piece == b.1.piece) && ((a.1.at_ == b.1.at_) && (a.1.way == b.1.way))) && (a.2 == b.2)) w := by
  unfold Op.equal Op.maxDepth
  exact eqA_of Try.underlying192 (by kernel_rfl) (eqf_cons' (a := .agg #[.int .i64 a.1.piece, .int .i64 a.1.at_, .int .i64 a.1.way]) (b := .agg #[.int .i64 b.1.piece, .int .i64 b.1.at_, .int .i64 b.1.way]) (by kernel_rfl) (by kernel_rfl) (by kernel_rfl) (eqA_of Try.underlying38 (by kernel_rfl) (eqf_cons' (by kernel_rfl) (by kernel_rfl) (by kernel_rfl) (run_equalIn_int w 9997 3 .i64 .i64 a.1.piece b.1.piece Try.underlying3) (eqf_cons' (by kernel_rfl) (by kernel_rfl) (by kernel_rfl) (run_equalIn_int w 9997 3 .i64 .i64 a.1.at_ b.1.at_ Try.underlying3) (eqf_last (by kernel_rfl) (by kernel_rfl) (by kernel_rfl) (run_equalIn_int w 9997 3 .i64 .i64 a.1.way b.1.way Try.underlying3))))) (eqf_last (by kernel_rfl) (by kernel_rfl) (by kernel_rfl) (run_equalIn_int w 9998 3 .i64 .i64 a.2 b.2 Try.underlying3)))
theorem ItemT.ext_iff' (a b : ItemT) : a = b ↔ (a.1.piece = b.1.piece ∧ a.1.at_ = b.1.at_ ∧ a.1.way = b.1.way) ∧ a.2 = b.2 := by
  obtain ⟨⟨p, q, r⟩, s⟩ := a
  obtain ⟨⟨p', q', r'⟩, s'⟩ := b
  simp
def keyGo : KeyEnc Try.prog ItemT where
  t := 192
  kind := _
  enc := fun x => .agg #[.int .i64 x.1.piece, .int .i64 x.1.at_, .int .i64 x.1.way, .int .i64 x.2]
  hk := Try.underlying192
  inj := fun a b h => by
    injection h with h
    have := congrArg Array.toList h
    simp at this
    exact (ItemT.ext_iff' a b).2 ⟨⟨this.1, this.2.1, this.2.2.1⟩, this.2.2.2⟩
  same := fun a => by simp [Instr.sameBits]
  chk := fun e a w => by kernel_rfl
  find := find_of_eq (fun a b => (((a.1.piece == b.1.piece) && ((a.1.at_ == b.1.at_) && (a.1.way == b.1.way))) && (a.2 == b.2))) (fun a b => by simp only [Bool.and_eq_true, beq_iff_eq]; exact (ItemT.ext_iff' a b).symm) (.inr fun a b => by simp [Instr.sameNow]) (fun a b w => eq_keyGo a b w)
end Go.Proofs.Ytckcffjnffcjcaa
namespace Go.Proofs.Ytckcffjnffcjcaa
open Go.RowKit Go.Proofs.YtckcffjnffcjcaaW.PrintWords
theorem Iter.meas {P : Program} {κ ν : Type} {K : KeyEnc P κ} {V : ν → Value} {w : World} {b r : Nat} {l left : List (κ × ν)} (h : Iter K V w b r l left) : ∃ es clock, w.heap[b]? = some (.map es clock) ∧ (leftOf es (w.iterSeen r)).size = left.length := by
  obtain ⟨hm, es, clock, since, c0, seen, h1, h2, h3, h4, h5, h6, h7, hleft⟩ := h
  refine ⟨es, clock, h1, ?_⟩
  have e : w.iterSeen r = seen := by unfold World.iterSeen; rw [h3]
  rw [e, hleft]
  have hl : es.toList.length = l.length := by have := congrArg List.length h2; simpa using this
  unfold leftOf
  rw [← Array.length_toList, Array.toList_filter, List.length_map]
  have : ∀ (l : List (κ × ν)) (es : List MapEntry), es.length = l.length → (es.filter (fun e => !seen.contains e.born)).length = ((l.zip es).filter (fun p => !seen.contains p.2.born)).length := by
    intro l
    induction l with
    | nil => intro es h; rw [List.length_eq_zero_iff.1 h]; rfl
    | cons a l ih =>
      intro es h
      cases es with
      | nil => simp at h
      | cons e es =>
        have := ih es (by simpa using h)
        rw [List.zip_cons_cons, List.filter_cons, List.filter_cons]
        split <;> simp_all
  exact this l es.toList hl
def KeepM (w w' : World) (mt mo : Nat) : Prop := ∃ W1 b o, w' = putMap W1 b o ∧ (b = mt ∨ b = mo) ∧ Below w.heap.size w W1
section
variable {w w' w0 : World} {mt mo : Nat}
theorem KeepM.block (h : KeepM w w' mt mo) {k : Nat} (hk : k < w.heap.size) (h1 : k ≠ mt) (h2 : k ≠ mo) : w'.heap[k]? = w.heap[k]? := by
  obtain ⟨W1, b, o, rfl, hb, hB⟩ := h
  rw [putMap_other W1 b o (by rcases hb with rfl | rfl <;> assumption)]
  exact hB.block k hk
theorem KeepM.size (h : KeepM w w' mt mo) : w.heap.size ≤ w'.heap.size := by
  obtain ⟨W1, b, o, rfl, hb, hB⟩ := h
  simpa [putMap] using hB.size
theorem KeepM.below {B : Nat} (h : KeepM w w' mt mo) (h0 : Below B w0 w) (h1 : B ≤ mt) (h2 : B ≤ mo) (h3 : B ≤ w.heap.size) : Below B w0 w' := by
  obtain ⟨W1, b, o, rfl, hb, hB⟩ := h
  exact putMap_below (h0.trans ⟨hB.os, hB.tape, hB.output, hB.size, fun k hk => hB.block k (Nat.lt_of_lt_of_le hk h3)⟩) (by rcases hb with rfl | rfl <;> assumption)
theorem KeepM.bx (h : KeepM w w' mt mo) {k : Nat} {vs : List Value} (hx : Bx w k vs) (h1 : k ≠ mt) (h2 : k ≠ mo) : Bx w' k vs := by
  obtain ⟨W1, b, o, rfl, hb, hB⟩ := h
  exact (hx.below hB).put (by rcases hb with rfl | rfl <;> assumption)
theorem KeepM.row (h : KeepM w w' mt mo) {α : Type} {d : Kd α} {e base : Nat} {v : Value} {xs : List α} {ok : Nat → Prop} (hr : d.R e w base ok v xs) (h1 : mt < base) (h2 : mo < base) : d.R e w' base ok v xs :=
  Kd.R_mono (Kd.R_step (Kd.R_bound hr) (fun k hk hl => h.block hl (by have := hk.2.1; omega) (by have := hk.2.1; omega))) (fun _ hk => hk.1)
end
structure RM (W : World) (b7 b8 mt mo : Nat) (out : List SpotT) (O : List ItemT) : Prop where
  t : Bx W b7 [.map (some mt)]
  o : Bx W b8 [.map (some mo)]
  mT : MapOf keySpot Value.bool W mt (out.map (fun x => (x, true)))
  mO : MapOf keyGo Value.bool W mo (O.map (fun x => (x, true)))
  ne : b7 ≠ mt ∧ b7 ≠ mo ∧ b8 ≠ mt ∧ b8 ≠ mo ∧ mt ≠ mo
theorem KeepM.step {W W' : World} {r : Nat} {o : Obj} (h : W' = putMap W r o ∨ W' = putMap W.drew r o) : KeepM W W' r r := by
  rcases h with h | h
  · exact ⟨W, r, o, h, .inl rfl, Below.refl _ _⟩
  · exact ⟨W.drew, r, o, h, .inl rfl, below_drew (Below.refl _ _)⟩
end Go.Proofs.Ytckcffjnffcjcaa
namespace Go.Proofs.Ytckcffjnffcjcaa
open Go.RowKit Go.Proofs.YtckcffjnffcjcaaW.PrintWords
def encC (c : CostT) : Value := .agg #[.int .i64 c.1, .int .i64 c.2]
def inbS (n : NetT) (b : SpotT) : Int := if b.way = -1 then lenP n b.piece - b.at_ else b.at_
theorem inbS_bd {n : NetT} {b : SpotT} (hg : Good n) (h : spotB n b = true) : 0 ≤ inbS n b ∧ inbS n b ≤ 10000000 := by
  have h1 := spotB_iff.1 h
  have h2 := hg.len h1.1 h1.2.1
  unfold inbS
  split <;> omega
structure BI (opn left : List (StepT × CostT)) (s : StepT) (c : CostT) : Prop where
  sub : ∀ p ∈ left, p ∈ opn
  le : ∀ p ∈ opn, p ∈ left ∨ leC c p.2
  is : (s, c) ∈ opn ∨ (c = (1152921504606846976, 0) ∧ ∀ p ∈ opn, p ∈ left)
theorem BI.start (opn : List (StepT × CostT)) (s : StepT) : BI opn opn s (1152921504606846976, 0) := ⟨fun p h => h, fun p h => .inl h, .inr ⟨rfl, fun p h => h⟩⟩
theorem BI.take {opn left left' : List (StepT × CostT)} {s k : StepT} {c v : CostT} (h : BI opn left s c) (hk : (k, v) ∈ left) (h1 : ∀ p, p ∈ left ↔ p = (k, v) ∨ p ∈ left') (hlt : ltC v c = true) : BI opn left' k v := by
  refine ⟨fun p hp => h.sub p ((h1 p).2 (.inr hp)), fun p hp => ?_, .inl (h.sub _ hk)⟩
  rcases h.le p hp with h2 | h2
  · rcases (h1 p).1 h2 with e | e
    · rw [e]; exact .inr (leC_refl _)
    · exact .inl e
  · exact .inr (leC_trans (ltC_le hlt) h2)
theorem BI.leave {opn left left' : List (StepT × CostT)} {s k : StepT} {c v : CostT} (h : BI opn left s c) (hk : (k, v) ∈ left) (h1 : ∀ p, p ∈ left ↔ p = (k, v) ∨ p ∈ left') (hlt : ltC v c = false) (hv : v.1 ≤ 2010000000) : BI opn left' s c := by
  refine ⟨fun p hp => h.sub p ((h1 p).2 (.inr hp)), fun p hp => ?_, ?_⟩
  · rcases h.le p hp with h2 | h2
    · rcases (h1 p).1 h2 with e | e
      · rw [e]; exact .inr (leC_iff.2 hlt)
      · exact .inl e
    · exact .inr h2
  · rcases h.is with h2 | ⟨h2, _⟩
    · exact .inl h2
    · have : ltC v c = true := by rw [h2, ltC_iff]; left; show v.1 < 1152921504606846976; omega
      rw [this] at hlt; cases hlt
theorem BI.done {opn : List (StepT × CostT)} {s : StepT} {c : CostT} (h : BI opn [] s c) (hne : opn ≠ []) : (s, c) ∈ opn ∧ ∀ p ∈ opn, leC c p.2 := by
  refine ⟨?_, fun p hp => (h.le p hp).resolve_left (by simp)⟩
  rcases h.is with h2 | ⟨_, h2⟩
  · exact h2
  · cases opn with
    | nil => exact absurd rfl hne
    | cons p opn => exact absurd (h2 p List.mem_cons_self) (by simp)
def mapSz (W : World) (b : Nat) : Nat := match W.heap[b]? with
  | some (.map es _) => es.size
  | _ => 0
theorem MapOf.size {P : Program} {κ ν : Type} {K : KeyEnc P κ} {V : ν → Value} {w : World} {b : Nat} {l : List (κ × ν)} (h : MapOf K V w b l) : mapSz w b = l.length := by
  obtain ⟨⟨es, clock, h1, h2, _⟩, _⟩ := h
  unfold mapSz
  rw [h1]
  have := congrArg List.length h2
  simpa using this
theorem MapOf.mem_lk' {P : Program} {κ ν : Type} [DecidableEq κ] {K : KeyEnc P κ} {V : ν → Value} {w : World} {b : Nat} {l : List (κ × ν)} (h : MapOf K V w b l) {k : κ} {v : ν} (hm : (k, v) ∈ l) : lk l k = some v := mem_lk h.nodup hm
set_option maxRecDepth 100000 in
set_option maxHeartbeats 4000000 in
theorem costLess_any (a b : CostT) (w : World) :
    Calls Try.prog 182 #[.agg #[.int .i64 a.1, .int .i64 a.2], .agg #[.int .i64 b.1, .int .i64 b.2]] w fun e w' => e = .returned (.bool (ltC a b)) ∧ Below w.heap.size w w' := by
  obtain ⟨a1, a2⟩ := a
  obtain ⟨b1, b2⟩ := b
  obtain ⟨W0, hW0, hA, hB, fb0, hz0⟩ := box2 w [.int .i64 a1, .int .i64 a2] [.int .i64 b1, .int .i64 b2] 217 217
  have FB := Aside0.mk fb0
  have HW := Aside0.mk hW0
  have x0 := hA.c 0 _ rfl; have x1 := hA.c 1 _ rfl
  have y0 := hB.c 0 _ rfl; have y1 := hB.c 1 _ rfl
  clear fb0 hW0 hA hB
  go_enter Try.func182, Try.ntmps182
  go_upto_region 1 with (fail)
  rw [← HW.out]
  by_cases h1 : a1 < b1
  · have HV : Aside0 (ltC (a1, a2) (b1, b2) = true) := ⟨by rw [ltC_iff]; exact .inl h1⟩
    go_wp2_with fail
    go_ret
    exact ⟨by rw [HV.out]; rfl, FB.out⟩
  · by_cases h2 : a1 = b1
    · subst h2
      have e2 : (a1 == a1) = true := by simp
      have HV : Aside0 (ltC (a1, a2) (a1, b2) = decide (a2 < b2)) := ⟨by unfold ltC; simp⟩
      go_wp2_with fail
      go_ret
      exact ⟨by rw [HV.out]; rfl, FB.out⟩
    · have e2 : (a1 == b1) = false := by simpa using h2
      have HV : Aside0 (ltC (a1, a2) (b1, b2) = false) := ⟨by unfold ltC; simp [h1, h2]⟩
      go_wp2_with fail
      go_ret
      exact ⟨by rw [HV.out]; rfl, FB.out⟩
structure CO (w : World) (nv : List Value) (mk mo cb : Nat) (known : List (StepT × CostT)) (c1 c2 : Int) (eb : Nat) (ve : Value) (E : List EndT) (W : World) (opn : List (StepT × CostT)) : Prop where
  o : MapOf keyStep encC W mo opn
  k : MapOf keyStep encC W mk known
  n : Bx W w.heap.size nv
  c : Bx W cb [.int .i64 c1, .int .i64 c2]
  e : kEnd.R 67 W eb (fun _ => True) ve E
  b0 : Below w.heap.size w W
  ne : mk ≠ mo ∧ w.heap.size < mo ∧ mo < cb ∧ mo < eb
section
variable {w W W1 : World} {nv : List Value} {mk mo cb eb : Nat} {known opn opn' : List (StepT × CostT)} {c1 c2 : Int} {ve : Value} {E : List EndT}
theorem CO.below (h : CO w nv mk mo cb known c1 c2 eb ve E W opn) (hb : Below W.heap.size W W1) : CO w nv mk mo cb known c1 c2 eb ve E W1 opn :=
  ⟨h.o.below hb, h.k.below hb, h.n.below hb, h.c.below hb, Kd.R_below h.e hb, below_more h.b0 hb, h.ne⟩
theorem CO.put {ob : Obj} (h : CO w nv mk mo cb known c1 c2 eb ve E W opn) (hm : MapOf keyStep encC (putMap W mo ob) mo opn') : CO w nv mk mo cb known c1 c2 eb ve E (putMap W mo ob) opn' := by
  have K : KeepM W (putMap W mo ob) mo mo := ⟨W, mo, ob, rfl, .inl rfl, Below.refl _ _⟩
  have hne := h.ne
  exact ⟨hm, h.k.put hne.1, h.n.put (by omega), h.c.put (by omega), K.row h.e hne.2.2.2 hne.2.2.2, putMap_below h.b0 (by omega), hne⟩
end
theorem costZero (w : World) : (zeroValue 217).run Try.prog w = .ok (.agg #[.int .i64 0, .int .i64 0]) w := by kernel_rfl
theorem cost_get {w : World} {b : Nat} {l : List (StepT × CostT)} (h : MapOf keyStep encC w b l) (p y : Int) :
    (∃ c, lk l ⟨p, y⟩ = some c ∧ (Instr.lookup 214 (.map (some b)) (.agg #[.int .i64 p, .int .i64 y]) true).run Try.prog w = .ok (.tuple #[.agg #[.int .i64 c.1, .int .i64 c.2], .bool true]) w) ∨
    (lk l ⟨p, y⟩ = none ∧ (Instr.lookup 214 (.map (some b)) (.agg #[.int .i64 p, .int .i64 y]) true).run Try.prog w = .ok (.tuple #[.agg #[.int .i64 0, .int .i64 0], .bool false]) w) := by
  have h1 := h.lookup (t := 214) (e := 217) Try.underlying214 (costZero w) ⟨p, y⟩ true
  cases hk : lk l ⟨p, y⟩ with
  | some c => rw [hk] at h1; exact .inl ⟨c, rfl, h1⟩
  | none => rw [hk] at h1; exact .inr ⟨rfl, h1⟩
theorem cost_put {w : World} {b : Nat} {l : List (StepT × CostT)} (h : MapOf keyStep encC w b l) (p y c1 c2 : Int) :
    ∃ o, (Instr.mapUpdate 214 (.map (some b)) (.agg #[.int .i64 p, .int .i64 y]) (.agg #[.int .i64 c1, .int .i64 c2])).run Try.prog w = .ok () (putMap w b o) ∧ MapOf keyStep encC (putMap w b o) b (up l ⟨p, y⟩ (c1, c2)) :=
  h.update (t := 214) (e := 217) Try.underlying214 ⟨p, y⟩ ((c1, c2) : CostT)
section
variable {n : NetT} {known opn : List (StepT × CostT)} {c : CostT} {t : StepT}
theorem relaxD_known {ck : CostT} (h : lk known t = some ck) : relaxD n known c opn t = opn := by unfold relaxD; rw [h]; simp
theorem relaxD_new (h : lk known t = none) (ho : lk opn t = none) : relaxD n known c opn t = up opn t (c.1 + lenS n t, c.2 + 1) := by unfold relaxD; rw [h, ho]; simp
theorem relaxD_less {o : CostT} (h : lk known t = none) (ho : lk opn t = some o) (hl : ltC (c.1 + lenS n t, c.2 + 1) o = true) : relaxD n known c opn t = up opn t (c.1 + lenS n t, c.2 + 1) := by unfold relaxD; rw [h, ho]; simp [hl]
theorem relaxD_keep {o : CostT} (h : lk known t = none) (ho : lk opn t = some o) (hl : ltC (c.1 + lenS n t, c.2 + 1) o = false) : relaxD n known c opn t = opn := by unfold relaxD; rw [h, ho]; simp [hl]
end
end Go.Proofs.Ytckcffjnffcjcaa
namespace Go.Proofs.Ytckcffjnffcjcaa
open Go.RowKit Go.Proofs.YtckcffjnffcjcaaW.PrintWords
set_option maxRecDepth 100000 in
set_option maxHeartbeats 16000000 in
theorem costs_any (n : NetT) (u : (Option Addr × Nat) × (Option Addr × Nat)) (b : SpotT) (w : World) (hr : RdNet 67 w u n) (hg : Good n) (hb : spotB n b = true) :
    Calls Try.prog 180 #[.agg #[.slice u.1.1 n.pieces.length u.1.2, .slice u.2.1 n.joints.length u.2.2], .agg #[.int .i64 b.piece, .int .i64 b.at_, .int .i64 b.way]] w
      fun e w' => ∃ bm known, e = .returned (.map (some bm)) ∧ MapOf keyStep encC w' bm known ∧ Costs n (stepOf b) (inbS n b) known ∧ w.heap.size ≤ bm ∧ Below w.heap.size w w' := by
  have hmm := @run_makeMap Try.prog
  obtain ⟨⟨A0, c0⟩, ⟨A1, c1⟩⟩ := u
  obtain ⟨(pn : Int), aa, aw⟩ := b
  obtain ⟨pn, hpn⟩ := Int.eq_ofNat_of_zero_le (spotB_iff.1 hb).1
  simp only at hpn
  subst hpn
  have hpl : pn < n.pieces.length := by have := (spotB_iff.1 hb).2.1; simp only at this; omega
  obtain ⟨ad0, e0, _⟩ := at_Piece hr.1.1 pn hpl
  simp only at e0
  subst e0
  have HPL := Aside0.mk hpl
  clear hpl
  have HR := Aside0.mk hr
  have HG := Aside0.mk hg
  have HSB := Aside0.mk hb
  obtain ⟨W0, hW0, hN, hS, fb0, hz0⟩ := box2 w [.slice (some ad0) n.pieces.length c0, .slice A1 n.joints.length c1] [.int .i64 pn, .int .i64 aa, .int .i64 aw] 35 38
  have HN := Aside0.mk hN
  have HS := Aside0.mk hS
  have HW := Aside0.mk hW0
  have FB := Aside0.mk fb0
  have HZ0 := Aside0.mk hz0
  have hxb := spotB_iff.1 hb
  have hlen := hg.len hxb.1 hxb.2.1
  have hib := inbS_bd hg hb
  simp only at hxb hlen
  have HXB := Aside0.mk hxb
  have HLN := Aside0.mk hlen
  obtain ⟨ib, hib1⟩ : ∃ i, i = inbS n ⟨(pn : Int), aa, aw⟩ := ⟨_, rfl⟩
  rw [← hib1] at hib
  have HIB := Aside0.mk hib1
  have HIBB := Aside0.mk hib
  have D0 := Aside0.mk (DInv.start (n := n) (fin := stepOf ⟨(pn : Int), aa, aw⟩) (inb := ib) (stepOf_ok hb) hib.1 hib.2)
  clear hr hg hb hW0 hN hS fb0 hz0 hxb hlen hib hib1
  go_enter Try.func180, Try.ntmps180
  go_upto_region 1 with (fail)
  rw [← HW.out]
  obtain ⟨W3, hW3⟩ : ∃ W3, W3 = ((W0.alloc (.map #[] 0)).alloc (.map #[] 0)).alloc (.cells #[.int .i64 pn, .int .i64 aw] 85) := ⟨_, rfl⟩
  have Q3 : Aside0 (Below W0.heap.size W0 W3) := ⟨by rw [hW3]; exact below_alloc (below_alloc (below_alloc (Below.refl _ _) _) _) _⟩
  have K3 : Aside0 (MapOf keyStep encC W3 W0.heap.size []) := ⟨by rw [hW3]; exact ((MapOf.made keyStep encC W0).alloc _).alloc _⟩
  have O3 : Aside0 (MapOf keyStep encC W3 (W0.heap.size + 1) []) := ⟨by
    rw [hW3]
    have := MapOf.made keyStep encC (W0.alloc (.map #[] 0))
    rw [show (W0.alloc (.map #[] 0)).heap.size = W0.heap.size + 1 by simp] at this
    exact this.alloc _⟩
  have E3 : Aside0 (Bx W3 (W0.heap.size + 1 + 1) [.int .i64 pn, .int .i64 aw]) := ⟨by
    rw [hW3]
    have := Bx.new ((W0.alloc (.map #[] 0)).alloc (.map #[] 0)) [.int .i64 pn, .int .i64 aw] 85
    rw [show ((W0.alloc (.map #[] 0)).alloc (.map #[] 0)).heap.size = W0.heap.size + 1 + 1 by simp] at this
    exact this⟩
  have N3 := Aside0.mk (HN.out.below Q3.out)
  have S3 := Aside0.mk (HS.out.below Q3.out)
  have HW3 := Aside0.mk hW3
  clear hW3
  have S0a := Aside0.mk ((HS.out.alloc (.map #[] 0)).alloc (.map #[] 0))
  have s0 := S0a.out.c 0 _ rfl; have s2 := S0a.out.c 2 _ rfl
  go_upto_region 4 with (fail)
  rw [← HW3.out]
  clear s0 s2
  have s1 := S3.out.c 1 _ rfl; have s2 := S3.out.c 2 _ rfl
  go_upto_if 35 with (fail)
  go_cut [8] (fun s8 W => s8 = .int .i64 ib ∧ Aside0 (Below W3.heap.size W3 W))
  case first =>
    by_cases h : aw = -1
    · have e1 : (aw == -1) = true := by simpa using h
      obtain ⟨ad, ea, y0, y1, y2, y3⟩ := at_Piece (HR.out.below (below_more FB.out Q3.out)).1.1 pn HPL.out
      simp only at ea
      injection ea with ea
      subst ea
      obtain ⟨L, hL⟩ : ∃ L, L = (n.pieces.getD pn default).len := ⟨_, rfl⟩
      rw [← hL] at y1
      have hlp : lenP n (pn : Int) = L := by unfold lenP; rw [Int.toNat_natCast, hL]
      have hlb := HLN.out
      have hxb := HXB.out
      rw [hlp] at hlb hxb
      have hw : IntKind.i64.wrap (L - aa) = ib := by
        have h1 := HIB.out
        unfold inbS at h1
        simp only at h1
        rw [if_pos h, hlp] at h1
        rw [h1]
        exact wrap64 (by omega) (by omega)
      have n0 := N3.out.c 0 _ rfl; have s0 := S3.out.c 0 _ rfl
      have hp0 : (0 : Int) ≤ (pn : Int) := by omega
      have hp1 : (pn : Int) < (n.pieces.length : Int) := by have := HPL.out; omega
      clear hL hlp hlb hxb y0 y2 y3 h
      go_wp2_with fail
      go_quiet (fail)
      all_goals
        try go_wp2_with fail
        go_meet
        case rel => exact ⟨rfl, ⟨below_drewN' (Below.refl _ _) _⟩⟩
    · have e1 : (aw == -1) = false := by simpa using h
      have e2 : aa = ib := by rw [HIB.out]; unfold inbS; rw [if_neg h]
      subst e2
      go_wp2_with fail
      go_meet
      case rel => exact ⟨rfl, ⟨Below.refl _ _⟩⟩
  case rest =>
  obtain ⟨rfl, B4⟩ := hcut
  obtain ⟨W4, hW4⟩ : ∃ W4, W4 = wc := ⟨_, rfl⟩
  subst hW4
  have E4 := Aside0.mk (E3.out.below B4.out)
  have N4 := Aside0.mk (N3.out.below B4.out)
  have K4 := Aside0.mk (K3.out.below B4.out)
  have O4 := Aside0.mk (O3.out.below B4.out)
  have FB4 := Aside0.mk (below_more (below_more FB.out Q3.out) B4.out)
  obtain ⟨o5, hup, hM5⟩ := O4.out.update (t := 214) (e := 217) Try.underlying214 ⟨(pn : Int), aw⟩ ((ib, 1) : CostT)
  replace hup : (Instr.mapUpdate 214 (.map (some (W0.heap.size + 1))) (.agg #[.int .i64 pn, .int .i64 aw]) (.agg #[.int .i64 ib, .int .i64 1])).run Try.prog W4 = .ok () (putMap W4 (W0.heap.size + 1) o5) := hup
  have M5 : Aside0 (MapOf keyStep encC (putMap W4 (W0.heap.size + 1) o5) (W0.heap.size + 1) [(stepOf ⟨(pn : Int), aa, aw⟩, (ib, 1))]) := ⟨hM5⟩
  have K5 := Aside0.mk (K4.out.put (k := W0.heap.size + 1) (o := o5) (by omega))
  have N5 := Aside0.mk (N4.out.put (k := W0.heap.size + 1) (o := o5) (by have := HZ0.out; omega))
  have B5 := Aside0.mk (putMap_below (o := o5) FB4.out (show w.heap.size ≤ W0.heap.size + 1 by have := HZ0.out; omega))
  have x0 := E4.out.c 0 _ rfl; have x1 := E4.out.c 1 _ rfl
  clear s1 s2 hM5
  go_wp2_with fail
  clear x0 x1
  go_loopw [52] (fun _ wr => ∃ (known opn : List (StepT × CostT)), Aside0 (MapOf keyStep encC wr W0.heap.size known) ∧ Aside0 (MapOf keyStep encC wr (W0.heap.size + 1) opn) ∧ Aside0 (DInv n (stepOf ⟨(pn : Int), aa, aw⟩) ib known opn) ∧ Aside0 (Bx wr w.heap.size [.slice (some ad0) n.pieces.length c0, .slice A1 n.joints.length c1]) ∧ Aside0 (Below w.heap.size w wr)) (fun _ wr => 2 * n.pieces.length + 1 - mapSz wr W0.heap.size)
  case atStart => exact ⟨[], _, K5, M5, D0, N5, B5⟩
  case round =>
    obtain ⟨known, opn, KK, OO, DD, NN, BB⟩ := hrel
    obtain ⟨WO, hWO⟩ : ∃ WO : World, WO = wr := ⟨_, rfl⟩
    subst hWO
    have hlen := fun ty => OO.out.len (t := 214) (e := 217) Try.underlying214 ty
    by_cases hne : opn = []
    · have HCS := Aside0.mk (DD.out.stop HG.out (fun s => by rw [hne]; rfl))
      have hln : ¬ 0 < opn.length := by rw [hne]; simp
      clear hne
      go_wp2_with fail
      go_ret
      exact ⟨_, known, rfl, KK.out, by rw [← HIB.out]; exact HCS.out, by have := HZ0.out; omega, BB.out⟩
    · have hlp : 0 < opn.length := List.length_pos_iff.2 hne
      have HNE := Aside0.mk hne
      obtain ⟨W6, hW6⟩ : ∃ W6, W6 = (WO.alloc (.cells #[.int .i64 0, .int .i64 0] 85)).alloc (.cells #[.int .i64 1152921504606846976, .int .i64 0] 217) := ⟨_, rfl⟩
      have Q6 : Aside0 (Below WO.heap.size WO W6) := ⟨by rw [hW6]; exact below_alloc (below_alloc (Below.refl _ _) _) _⟩
      have S6 : Aside0 (Bx W6 WO.heap.size [.int .i64 0, .int .i64 0]) := ⟨by rw [hW6]; exact (Bx.new WO _ 85).alloc _⟩
      have C6 : Aside0 (Bx W6 (WO.heap.size + 1) [.int .i64 1152921504606846976, .int .i64 0]) := ⟨by
        rw [hW6]
        have := Bx.new (WO.alloc (.cells #[.int .i64 0, .int .i64 0] 85)) [.int .i64 1152921504606846976, .int .i64 0] 217
        rw [show (WO.alloc (.cells #[.int .i64 0, .int .i64 0] 85)).heap.size = WO.heap.size + 1 by simp] at this
        exact this⟩
      have hs6 : W6.heap.size = WO.heap.size + 2 := by rw [hW6]; simp
      have HS6 := Aside0.mk hs6
      have O6 := Aside0.mk (OO.out.below Q6.out)
      have K6 := Aside0.mk (KK.out.below Q6.out)
      have N6 := Aside0.mk (NN.out.below Q6.out)
      have B6 := Aside0.mk (below_more BB.out Q6.out)
      obtain ⟨o, hrg, IT⟩ := O6.out.range (t := 214) (e := 217) Try.underlying214
      have IT0 := Aside0.mk IT
      obtain ⟨es, clock, hes, _⟩ := IT.meas
      have HES := Aside0.mk hes
      have HW6 := Aside0.mk hW6
      clear hne hW6 IT hes hs6
      go_upto_region 11 with (fail)
      rw [← HW6.out]
      go_wp2_with fail
      go_loopw [57] (fun _ wr => ∃ (left : List (StepT × CostT)) (s : StepT) (c : CostT), Aside0 (BI opn left s c) ∧ Aside0 (Iter keyStep encC wr (W0.heap.size + 1) W6.heap.size opn left) ∧ Aside0 (wr.heap[W0.heap.size + 1]? = some (.map es clock)) ∧ Aside0 (Bx wr WO.heap.size [.int .i64 s.piece, .int .i64 s.way]) ∧ Aside0 (Bx wr (WO.heap.size + 1) [.int .i64 c.1, .int .i64 c.2]) ∧ Aside0 (MapOf keyStep encC wr W0.heap.size known) ∧ Aside0 (Bx wr w.heap.size [.slice (some ad0) n.pieces.length c0, .slice A1 n.joints.length c1]) ∧ Aside0 (Below w.heap.size w wr) ∧ Aside0 (W6.heap.size < wr.heap.size)) (fun _ wr => (leftOf es (wr.iterSeen W6.heap.size)).size)
      case atStart => exact ⟨opn, ⟨0, 0⟩, (1152921504606846976, 0), ⟨BI.start opn _⟩, IT0, HES, ⟨S6.out.alloc _⟩, ⟨C6.out.alloc _⟩, ⟨K6.out.alloc _⟩, ⟨N6.out.alloc _⟩, ⟨below_alloc B6.out _⟩, ⟨by simp⟩⟩
      case round =>
        obtain ⟨left, s, c, BI2, IT2, HE2, S2, C2, K2, N2, B2, Z2⟩ := hrel
        have MS : Aside0 ((leftOf es (wr.iterSeen W6.heap.size)).size = left.length) := ⟨by
          obtain ⟨es', clock', h1, h2⟩ := IT2.out.meas
          have h3 := HE2.out
          rw [h1] at h3
          injection h3 with h3
          injection h3 with h3 _
          rw [← h3]; exact h2⟩
        rcases IT2.out.next 0 with ⟨rfl, hnx⟩ | ⟨k, v, left', w', o', hnx, hw', hmem, hlt, h1, h2, hit, hen⟩
        · obtain ⟨hsc, hmin⟩ := BI2.out.done HNE.out
          have hlk := OO.out.mem_lk' hsc
          have hstep := DD.out.step HG.out hlk (fun t ct ht => hmin (t, ct) (lk_mem ht))
          have hsok := DD.out.ook _ _ hlk
          have hcb := DD.out.bdo _ _ hlk
          have HLK := Aside0.mk hlk
          have HSTEP := Aside0.mk hstep
          have HSOK := Aside0.mk hsok
          obtain ⟨sp, sw⟩ := s
          obtain ⟨cc1, cc2⟩ := c
          have HCB := Aside0.mk (show 0 ≤ cc1 ∧ cc1 ≤ 2010000000 ∧ 0 ≤ cc2 ∧ cc2 ≤ 201 by have h1 := DD.out.few; have h2 := HG.out.p1; simp only at hcb; omega)
          have hsb := stepB_iff.1 hsok
          simp only at hsb
          have HSB2 := Aside0.mk hsb
          obtain ⟨od, hdel0, hM1⟩ := IT2.out.map.delete (t := 214) (e := 217) Try.underlying214 ⟨sp, sw⟩ 0
          have hdel : (Builtin.delete_ #[214, 85] 0 #[.map (some (W0.heap.size + 1)), .agg #[.int .i64 sp, .int .i64 sw]]).run Try.prog wr = .ok (.tuple #[]) (putMap wr (W0.heap.size + 1) od) := hdel0
          obtain ⟨ou, hup0, hM2⟩ := (K2.out.put (k := W0.heap.size + 1) (o := od) (by omega)).update (t := 214) (e := 217) Try.underlying214 ⟨sp, sw⟩ ((cc1, cc2) : CostT)
          have hup2 : (Instr.mapUpdate 214 (.map (some W0.heap.size)) (.agg #[.int .i64 sp, .int .i64 sw]) (.agg #[.int .i64 cc1, .int .i64 cc2])).run Try.prog (putMap wr (W0.heap.size + 1) od) = .ok () (putMap (putMap wr (W0.heap.size + 1) od) W0.heap.size ou) := hup0
          have hz0 := HZ0.out
          have hs6 := HS6.out
          have hob := BB.out.size
          have hmo := OO.out.lt
          obtain ⟨W7, hW7⟩ : ∃ W7, W7 = putMap (putMap wr (W0.heap.size + 1) od) W0.heap.size ou := ⟨_, rfl⟩
          have O7 : Aside0 (MapOf keyStep encC W7 (W0.heap.size + 1) (dl opn ⟨sp, sw⟩)) := ⟨by rw [hW7]; exact hM1.put (by omega)⟩
          have K7 : Aside0 (MapOf keyStep encC W7 W0.heap.size (up known ⟨sp, sw⟩ (cc1, cc2))) := ⟨by rw [hW7]; exact hM2⟩
          have N7 : Aside0 (Bx W7 w.heap.size [.slice (some ad0) n.pieces.length c0, .slice A1 n.joints.length c1]) := ⟨by rw [hW7]; exact (N2.out.put (by omega)).put (by omega)⟩
          have S1a := Aside0.mk (S2.out.put (k := W0.heap.size + 1) (o := od) (by omega))
          have C1a := Aside0.mk (C2.out.put (k := W0.heap.size + 1) (o := od) (by omega))
          have S7 : Aside0 (Bx W7 WO.heap.size [.int .i64 sp, .int .i64 sw]) := ⟨by rw [hW7]; exact S1a.out.put (by omega)⟩
          have C7 : Aside0 (Bx W7 (WO.heap.size + 1) [.int .i64 cc1, .int .i64 cc2]) := ⟨by rw [hW7]; exact C1a.out.put (by omega)⟩
          have B7 : Aside0 (Below w.heap.size w W7) := ⟨by rw [hW7]; exact putMap_below (putMap_below B2.out (show w.heap.size ≤ W0.heap.size + 1 by omega)) (show w.heap.size ≤ W0.heap.size by omega)⟩
          have x0 := S2.out.c 0 _ rfl; have x1 := S2.out.c 1 _ rfl
          have y0 := S1a.out.c 0 _ rfl; have y1 := S1a.out.c 1 _ rfl
          have z0 := C1a.out.c 0 _ rfl; have z1 := C1a.out.c 1 _ rfl
          have HW7 := Aside0.mk hW7
          clear hsc hmin hlk hstep hsok hcb hsb hdel0 hM1 hup0 hM2 hz0 hs6 hob hmo hW7
          go_upto_region 18 with (fail)
          rw [← HW7.out]
          clear x0 x1 y0 y1 z0 z1
          obtain ⟨bs, hbs⟩ : ∃ b, b = (beginS ⟨sp, sw⟩).side := ⟨_, rfl⟩
          have HBS := Aside0.mk (show (⟨sp, bs⟩ : EndT) = beginS ⟨sp, sw⟩ by rw [hbs]; rfl)
          have x0 := S7.out.c 0 _ rfl
          have y1 := (S7.out.alloc (.cells #[.int .i64 sp, .int .i64 0] 67)).c 1 _ rfl
          go_upto_if 76 with (fail)
          clear x0 y1
          go_cut [13] (fun s13 W => s13 = .pointer (some ⟨W7.heap.size, 0, none⟩) ∧ Aside0 (Bx W W7.heap.size [.int .i64 sp, .int .i64 bs]) ∧ Aside0 (Below W7.heap.size W7 W))
          case first =>
            have X8 := Bx.new W7 [.int .i64 sp, .int .i64 0] 67
            have f1 := X8.f 1; have q1 := X8.c 1 _ rfl; have ql := X8.lt
            by_cases h : sw = -1
            · have e1 : (sw == -1) = true := by simpa using h
              have E2 := Aside0.mk (show bs = 1 by rw [hbs]; unfold beginS; rw [h, if_neg (show ¬ (-1 : Int) = 1 by decide)])
              clear h hbs
              go_wp2_with fail
              go_meet
              case rel => first | exact ⟨rfl, ⟨by rw [E2.out]; exact Bx.new W7 _ 67⟩, ⟨below_alloc (Below.refl _ _) _⟩⟩ | exact ⟨rfl, ⟨by rw [E2.out]; exact X8.out.set (i := 1) (by simp) _⟩, ⟨below_set (below_alloc (Below.refl _ _) _) (Nat.le_refl _)⟩⟩
            · have e1 : (sw == -1) = false := by simpa using h
              have E2 := Aside0.mk (show bs = 0 by
                rw [hbs]; unfold beginS; simp only
                rcases HSB2.out.2.2 with h2 | h2
                · rw [if_pos h2]
                · exact absurd h2 h)
              clear h hbs
              go_wp2_with fail
              go_meet
              case rel => first | exact ⟨rfl, ⟨by rw [E2.out]; exact Bx.new W7 _ 67⟩, ⟨below_alloc (Below.refl _ _) _⟩⟩ | exact ⟨rfl, ⟨by rw [E2.out]; exact X8.out.set (i := 1) (by simp) _⟩, ⟨below_set (below_alloc (Below.refl _ _) _) (Nat.le_refl _)⟩⟩
          case rest =>
          obtain ⟨rfl, X8, Q8⟩ := hcut
          obtain ⟨W8, hW8⟩ : ∃ W8, W8 = wc := ⟨_, rfl⟩
          subst hW8
          have O8 := Aside0.mk (O7.out.below Q8.out)
          have K8 := Aside0.mk (K7.out.below Q8.out)
          have N8 := Aside0.mk (N7.out.below Q8.out)
          have C8 := Aside0.mk (C7.out.below Q8.out)
          have B8 := Aside0.mk (below_more B7.out Q8.out)
          clear hbs
          have n0 := N8.out.c 0 _ rfl; have n1 := N8.out.c 1 _ rfl
          have x0 := X8.out.c 0 _ rfl; have x1 := X8.out.c 1 _ rfl
          go_wp2_with fail
          (with_reducible refine Calls.mono (over_any n ((some ad0, c0), (A1, c1)) ⟨sp, bs⟩ _ (HR.out.below B8.out) HG.out) ?_)
          rintro e w9 ⟨v1, v2, rfl, r1, r2, b9⟩
          obtain ⟨E, hE⟩ : ∃ E, E = acrossG n ⟨sp, bs⟩ := ⟨_, rfl⟩
          rw [← hE] at r1
          have HEB := Aside0.mk (show endB n (beginS ⟨sp, sw⟩) = true from beginS_ok HSOK.out)
          have HE := Aside0.mk (show E = acrossE n (beginS ⟨sp, sw⟩) by rw [hE, HBS.out]; exact acrossG_ok HG.out HEB.out)
          have hE2 : E.length ≤ 2 := by rw [HE.out]; unfold acrossE; exact acrossJ_few _ _
          obtain ⟨AE, cE, eE⟩ := Kd.R_slice r1
          subst eE
          have RE := Aside0.mk r1
          have O9 := Aside0.mk (O8.out.below b9)
          have K9 := Aside0.mk (K8.out.below b9)
          have N9 := Aside0.mk (N8.out.below b9)
          have C9 := Aside0.mk (C8.out.below b9)
          have B9 := Aside0.mk (below_more B8.out b9)
          have HZ8 := Aside0.mk (show WO.heap.size + 1 < W8.heap.size from C8.out.lt)
          have HOB := Aside0.mk BB.out.size
          have HMO := Aside0.mk OO.out.lt
          clear b9 r1 r2 hE n0 n1 x0 x1
          go_wp2_with fail
          have CO9 := Aside0.mk (show CO w [.slice (some ad0) n.pieces.length c0, .slice A1 n.joints.length c1] W0.heap.size (W0.heap.size + 1) (WO.heap.size + 1) (up known ⟨sp, sw⟩ (cc1, cc2)) cc1 cc2 W8.heap.size (.slice AE E.length cE) E w9 (dl opn ⟨sp, sw⟩) from ⟨O9.out, K9.out, N9.out, C9.out, RE.out, B9.out, by have h1 := HOB.out; have h2 := HMO.out; have h3 := HZ0.out; have h4 := HZ8.out; omega⟩)
          go_loopw [86] (fun v86 wr => ∃ (q : Nat), v86 = .int .i64 (q : Int) ∧ q ≤ E.length ∧ Aside0 (CO w [.slice (some ad0) n.pieces.length c0, .slice A1 n.joints.length c1] W0.heap.size (W0.heap.size + 1) (WO.heap.size + 1) (up known ⟨sp, sw⟩ (cc1, cc2)) cc1 cc2 W8.heap.size (.slice AE E.length cE) E wr ((E.take q).foldl (fun o e => relaxD n (up known ⟨sp, sw⟩ (cc1, cc2)) (cc1, cc2) o (outS e)) (dl opn ⟨sp, sw⟩)))) (fun v86 _ => E.length - (intOf v86).toNat)
          case atStart => exact ⟨0, rfl, Nat.zero_le _, CO9⟩
          case round =>
            obtain ⟨q, rfl, hq, C3⟩ := hrel
            by_cases hlt3 : q < E.length
            · obtain ⟨WR, hWR⟩ : ∃ WR : World, WR = wr := ⟨_, rfl⟩
              subst hWR
              obtain ⟨oq, hoq⟩ : ∃ o, o = ((E.take q).foldl (fun o e => relaxD n (up known ⟨sp, sw⟩ (cc1, cc2)) (cc1, cc2) o (outS e)) (dl opn ⟨sp, sw⟩)) := ⟨_, rfl⟩
              rw [← hoq] at C3
              have hnext := congrArg (fun l => l.foldl (fun o e => relaxD n (up known ⟨sp, sw⟩ (cc1, cc2)) (cc1, cc2) o (outS e)) (dl opn ⟨sp, sw⟩)) (take_getD E q hlt3)
              simp only [List.foldl_append, List.foldl_cons, List.foldl_nil] at hnext
              rw [← hoq] at hnext
              obtain ⟨adE, eE1, z0, z1⟩ := at_End (Kd.R_reads' C3.out.e).2.2 q hlt3
              subst eE1
              have hem := getD_mem E q hlt3
              rw [HE.out] at hem
              have hee := (HG.out.across HEB.out hem).1
              rw [← HE.out] at hee
              obtain ⟨⟨ep, es2⟩, he⟩ : ∃ e, e = E.getD q default := ⟨_, rfl⟩
              rw [← he] at z0 z1 hee hnext
              have hb1 := endB_iff.1 hee
              simp only at hb1
              obtain ⟨en, hen1⟩ := Int.eq_ofNat_of_zero_le hb1.1
              subst hen1
              have HEN := Aside0.mk (show en < n.pieces.length by omega)
              obtain ⟨tw, htw⟩ : ∃ t, t = (outS ⟨(en : Int), es2⟩).way := ⟨_, rfl⟩
              have htw2 : outS ⟨(en : Int), es2⟩ = ⟨(en : Int), tw⟩ := by rw [htw]; rfl
              rw [htw2] at hnext
              have HTW : Aside0 (tw = if es2 = 0 then -1 else 1) := ⟨by rw [htw]; rfl⟩
              obtain ⟨L, hL⟩ : ∃ L, L = (n.pieces.getD en default).len := ⟨_, rfl⟩
              have hlp : lenP n (en : Int) = L := by unfold lenP; rw [Int.toNat_natCast, hL]
              have HLS := Aside0.mk (show lenS n ⟨(en : Int), tw⟩ = L from hlp)
              have HLB := Aside0.mk (show 1 ≤ L ∧ L ≤ 10000000 by rw [← hlp]; exact HG.out.len hb1.1 hb1.2.1)
              have HL := Aside0.mk hL
              have HNX := Aside0.mk hnext
              have hq0 : (0 : Int) ≤ (q : Int) := by omega
              have hq1 : (q : Int) < (E.length : Int) := by omega
              obtain ⟨W10, hW10⟩ : ∃ W10, W10 = WR.alloc (.cells #[.int .i64 en, .int .i64 es2] 67) := ⟨_, rfl⟩
              have Q10 : Below WR.heap.size WR W10 := by rw [hW10]; exact below_alloc (Below.refl _ _) _
              have C10 := Aside0.mk (C3.out.below Q10)
              have X10 : Aside0 (Bx W10 WR.heap.size [.int .i64 en, .int .i64 es2]) := ⟨by rw [hW10]; exact Bx.new WR _ 67⟩
              have HW10 := Aside0.mk hW10
              clear hoq hnext hem he hee hb1 htw htw2 hL hlp hW10 Q10
              go_upto_region 25 with (fail)
              rw [← HW10.out]
              clear z0 z1
              have e0 := X10.out.c 0 _ rfl
              have e1 := (X10.out.alloc (.cells #[.int .i64 en, .int .i64 1] 85)).c 1 _ rfl
              go_upto_if 95 with (fail)
              clear e0 e1
              go_cut [18] (fun s18 W => s18 = .pointer (some ⟨W10.heap.size, 0, none⟩) ∧ Aside0 (Bx W W10.heap.size [.int .i64 en, .int .i64 tw]) ∧ Aside0 (Below W10.heap.size W10 W))
              case first =>
                have X8 := Aside0.mk (Bx.new W10 [.int .i64 en, .int .i64 1] 85)
                have f1 := X8.out.f 1; have q1 := X8.out.c 1 _ rfl; have ql := X8.out.lt
                by_cases h : es2 = 0
                · have e1 : (es2 == 0) = true := by simpa using h
                  have E2 := Aside0.mk (show tw = -1 by rw [HTW.out, if_pos h])
                  clear h
                  go_wp2_with fail
                  go_meet
                  case rel => first | exact ⟨rfl, ⟨by rw [E2.out]; exact Bx.new W10 _ 85⟩, ⟨below_alloc (Below.refl _ _) _⟩⟩ | exact ⟨rfl, ⟨by rw [E2.out]; exact X8.out.set (i := 1) (by simp) _⟩, ⟨below_set (below_alloc (Below.refl _ _) _) (Nat.le_refl _)⟩⟩
                · have e1 : (es2 == 0) = false := by simpa using h
                  have E2 := Aside0.mk (show tw = 1 by rw [HTW.out, if_neg h])
                  clear h
                  go_wp2_with fail
                  go_meet
                  case rel => first | exact ⟨rfl, ⟨by rw [E2.out]; exact Bx.new W10 _ 85⟩, ⟨below_alloc (Below.refl _ _) _⟩⟩ | exact ⟨rfl, ⟨by rw [E2.out]; exact X8.out.set (i := 1) (by simp) _⟩, ⟨below_set (below_alloc (Below.refl _ _) _) (Nat.le_refl _)⟩⟩
              case rest =>
              obtain ⟨rfl, T11, Q11⟩ := hcut
              obtain ⟨W11, hW11⟩ : ∃ W11, W11 = wc := ⟨_, rfl⟩
              subst hW11
              have C11 := Aside0.mk (C10.out.below Q11.out)
              obtain ⟨nc1, hnc1⟩ : ∃ x, x = cc1 + L := ⟨_, rfl⟩
              obtain ⟨nc2, hnc2⟩ : ∃ x, x = cc2 + 1 := ⟨_, rfl⟩
              have hcb := HCB.out
              have hlb := HLB.out
              have hw1 : IntKind.i64.wrap (cc1 + L) = nc1 := by rw [hnc1]; exact wrap64 (by omega) (by omega)
              have hw2 : IntKind.i64.wrap (cc2 + 1) = nc2 := by rw [hnc2]; exact wrap64 (by omega) (by omega)
              have HNC : Aside0 (((cc1, cc2) : CostT).1 + lenS n ⟨(en : Int), tw⟩ = nc1 ∧ ((cc1, cc2) : CostT).2 + 1 = nc2) := ⟨by rw [HLS.out]; exact ⟨hnc1.symm, hnc2.symm⟩⟩
              clear hnc1 hnc2 hcb hlb
              go_upto_region 28 with (fail)
              go_cut [19] (fun s19 W => ∃ b19, s19 = .pointer (some ⟨b19, 0, none⟩) ∧ Aside0 (Bx W b19 [.int .i64 nc1, .int .i64 nc2]) ∧ Aside0 (Below W11.heap.size W11 W))
              case first =>
                obtain ⟨ad, ea, y0, y1, y2, y3⟩ := at_Piece (HR.out.below C11.out.b0).1.1 en HEN.out
                simp only at ea
                injection ea with ea
                subst ea
                rw [← HL.out] at y1
                have n0 := C11.out.n.c 0 _ rfl; have cc0 := C11.out.c.c 0 _ rfl; have cc1' := C11.out.c.c 1 _ rfl
                have t0 := T11.out.c 0 _ rfl
                have hp0 : (0 : Int) ≤ (en : Int) := by omega
                have hp1 : (en : Int) < (n.pieces.length : Int) := by have := HEN.out; omega
                have AL : Below W11.heap.size W11 (W11.alloc (.cells #[.int .i64 0, .int .i64 0] 217)) := below_alloc (Below.refl _ _) _
                have n0a := pw_cell_below AL n0; have cc0a := pw_cell_below AL cc0; have cc1a := pw_cell_below AL cc1'
                have t0a := pw_cell_below AL t0; have y1a := pw_cell_below AL y1
                have nl := C11.out.n.lt; have cl := C11.out.c.lt; have tl := T11.out.lt
                clear y0 y2 y3 AL
                go_wp2_with fail
                go_region
                all_goals
                  try go_wp2_with fail
                  go_meet
                  case rel => first | exact ⟨_, rfl, ⟨Bx.drew (Bx.new' _ _ _ rfl)⟩, ⟨below_drew (below_alloc (Below.refl _ _) _)⟩⟩ | exact ⟨_, rfl, ⟨Bx.new' _ _ _ rfl⟩, ⟨below_alloc (below_drew (Below.refl _ _)) _⟩⟩
              case rest =>
              obtain ⟨b19, rfl, Y12, Q12⟩ := hcut
              obtain ⟨W12, hW12⟩ : ∃ W12, W12 = wc := ⟨_, rfl⟩
              subst hW12
              have C12 := Aside0.mk (C11.out.below Q12.out)
              have T12 := Aside0.mk (T11.out.below Q12.out)
              clear hw1 hw2
              have t0 := T12.out.c 0 _ rfl; have t1 := T12.out.c 1 _ rfl
              rcases cost_get C12.out.k (en : Int) tw with ⟨⟨k1, k2⟩, hk, hlk⟩ | ⟨hk, hlk⟩
              · have HV := Aside0.mk (relaxD_known (n := n) (opn := oq) (c := (cc1, cc2)) hk)
                clear hk
                go_wp2_with fail
                go_roundw
                case rel =>
                  refine ⟨q + 1, by go_num, by omega, ⟨?_⟩⟩
                  rw [HNX.out, HV.out]
                  exact C12.out.below (below_alloc (Below.refl _ _) _)
                case measure => simp [intOf]; omega
              · have HK := Aside0.mk hk
                obtain ⟨W13, hW13⟩ : ∃ W13, W13 = W12.alloc (.cells #[.int .i64 0, .int .i64 0] 217) := ⟨_, rfl⟩
                have Q13 : Below W12.heap.size W12 W13 := by rw [hW13]; exact below_alloc (Below.refl _ _) _
                have C13 := Aside0.mk (C12.out.below Q13)
                have T13 := Aside0.mk (T12.out.below Q13)
                have Y13 := Aside0.mk (Y12.out.below Q13)
                have HW13 := Aside0.mk hW13
                clear hk hW13 Q13
                go_upto_region 31 with (fail)
                rw [← HW13.out]
                clear t0 t1 hlk
                have t0 := T13.out.c 0 _ rfl; have t1 := T13.out.c 1 _ rfl
                rcases cost_get C13.out.o (en : Int) tw with ⟨⟨o1, o2⟩, ho, hlo⟩ | ⟨ho, hlo⟩
                · have HO := Aside0.mk ho
                  obtain ⟨W14, hW14⟩ : ∃ W14, W14 = W13.alloc (.cells #[.int .i64 o1, .int .i64 o2] 217) := ⟨_, rfl⟩
                  have Q14 : Below W13.heap.size W13 W14 := by rw [hW14]; exact below_alloc (Below.refl _ _) _
                  have C14 := Aside0.mk (C13.out.below Q14)
                  have T14 := Aside0.mk (T13.out.below Q14)
                  have Y14 := Aside0.mk (Y13.out.below Q14)
                  have P14 : Aside0 (Bx W14 W13.heap.size [.int .i64 o1, .int .i64 o2]) := ⟨by rw [hW14]; exact Bx.new W13 _ 217⟩
                  have HW14 := Aside0.mk hW14
                  clear ho hW14 Q14
                  go_upto_region 32 with (fail)
                  rw [← HW14.out]
                  clear t0 t1 hlo
                  have y0 := Y14.out.c 0 _ rfl; have y1 := Y14.out.c 1 _ rfl
                  have p0 := P14.out.c 0 _ rfl; have p1 := P14.out.c 1 _ rfl
                  go_wp2_with fail
                  (with_reducible refine Calls.mono (costLess_any (nc1, nc2) (o1, o2) _) ?_)
                  rintro e w15 ⟨rfl, b15⟩
                  obtain ⟨lt, hlt5⟩ : ∃ b, b = ltC (nc1, nc2) (o1, o2) := ⟨_, rfl⟩
                  rw [← hlt5]
                  have HLT5 := Aside0.mk hlt5.symm
                  have C15 := Aside0.mk (C14.out.below b15)
                  have T15 := Aside0.mk (T14.out.below b15)
                  have Y15 := Aside0.mk (Y14.out.below b15)
                  clear y0 y1 p0 p1 hlt5 b15
                  cases lt with
                  | false =>
                    have HV := Aside0.mk (relaxD_keep (n := n) (c := (cc1, cc2)) HK.out HO.out (by rw [HNC.out.1, HNC.out.2]; exact HLT5.out))
                    go_wp2_with fail
                    go_roundw
                    case rel =>
                      refine ⟨q + 1, by go_num, by omega, ⟨?_⟩⟩
                      rw [HNX.out, HV.out]
                      exact C15.out
                    case measure => simp [intOf]; omega
                  | true =>
                    have HV := Aside0.mk (relaxD_less (n := n) (c := (cc1, cc2)) HK.out HO.out (by rw [HNC.out.1, HNC.out.2]; exact HLT5.out))
                    obtain ⟨ob, hub, hM⟩ := cost_put C15.out.o (en : Int) tw nc1 nc2
                    have C16 := Aside0.mk (C15.out.put hM)
                    have t0 := T15.out.c 0 _ rfl; have t1 := T15.out.c 1 _ rfl
                    have y0 := Y15.out.c 0 _ rfl; have y1 := Y15.out.c 1 _ rfl
                    clear hM
                    go_wp2_with fail
                    go_roundw
                    case rel =>
                      refine ⟨q + 1, by go_num, by omega, ⟨?_⟩⟩
                      rw [HNX.out, HV.out, HNC.out.1, HNC.out.2]
                      exact C16.out
                    case measure => simp [intOf]; omega
                · have HV := Aside0.mk (relaxD_new (n := n) (c := (cc1, cc2)) HK.out ho)
                  obtain ⟨W14, hW14⟩ : ∃ W14, W14 = W13.alloc (.cells #[.int .i64 0, .int .i64 0] 217) := ⟨_, rfl⟩
                  have Q14 : Below W13.heap.size W13 W14 := by rw [hW14]; exact below_alloc (Below.refl _ _) _
                  have C14 := Aside0.mk (C13.out.below Q14)
                  have T14 := Aside0.mk (T13.out.below Q14)
                  have Y14 := Aside0.mk (Y13.out.below Q14)
                  have HW14 := Aside0.mk hW14
                  obtain ⟨ob, hub, hM⟩ := cost_put C14.out.o (en : Int) tw nc1 nc2
                  have C15 := Aside0.mk (C14.out.put hM)
                  clear ho hW14 Q14 hM
                  go_upto_region 32 with (fail)
                  rw [← HW14.out]
                  clear t0 t1 hlo
                  have t0 := T14.out.c 0 _ rfl; have t1 := T14.out.c 1 _ rfl
                  have y0 := Y14.out.c 0 _ rfl; have y1 := Y14.out.c 1 _ rfl
                  go_wp2_with fail
                  go_roundw
                  case rel =>
                    refine ⟨q + 1, by go_num, by omega, ⟨?_⟩⟩
                    rw [HNX.out, HV.out, HNC.out.1, HNC.out.2]
                    exact C15.out
                  case measure => simp [intOf]; omega
            · have hqe : q = E.length := by omega
              have hge : ¬ (q : Int) < (E.length : Int) := by omega
              have K3 := Aside0.mk C3.out.k
              have N3 := Aside0.mk C3.out.n
              have B3 := Aside0.mk C3.out.b0
              have OE : Aside0 (MapOf keyStep encC wr (W0.heap.size + 1) (stepD n known opn ⟨sp, sw⟩ (cc1, cc2))) := ⟨by
                have h := C3.out.o
                rw [hqe, List.take_length, HE.out] at h
                exact h⟩
              clear hqe
              go_wp2_with fail
              go_roundw
              case rel => exact ⟨_, _, K3, OE, ⟨HSTEP.out.1⟩, N3, B3⟩
              case measure =>
                rw [K3.out.size, KK.out.size, HSTEP.out.2]
                have h1 := HSTEP.out.1.few
                rw [HSTEP.out.2] at h1
                omega
        · obtain ⟨kp, kw⟩ := k
          obtain ⟨v1, v2⟩ := v
          obtain ⟨sp, sw⟩ := s
          obtain ⟨cc1, cc2⟩ := c
          replace hnx : (Instr.next (.pointer (some ⟨W6.heap.size, 0, none⟩)) false 0).run Try.prog wr = .ok (.tuple #[.bool true, .agg #[.int .i64 kp, .int .i64 kw], .agg #[.int .i64 v1, .int .i64 v2]]) w' := hnx
          replace hen : (Instr.entry (.pointer (some ⟨W6.heap.size, 0, none⟩))).run Try.prog w' = .ok (.tuple #[.agg #[.int .i64 kp, .int .i64 kw], .agg #[.int .i64 v1, .int .i64 v2]]) w' := hen
          have hvb := DD.out.bdo ⟨kp, kw⟩ (v1, v2) (OO.out.mem_lk' (BI2.out.sub _ hmem))
          have HVB := Aside0.mk (show v1 ≤ 2010000000 by have h1 := DD.out.few; have h2 := HG.out.p1; simp only at hvb; omega)
          have HMEM := Aside0.mk hmem
          have H1 := Aside0.mk h1
          have HLT := Aside0.mk hlt
          have KS := Aside0.mk (KeepM.step hw')
          have hzz := Z2.out
          obtain ⟨W8, hW8⟩ : ∃ W8, W8 = (w'.alloc (.cells #[.int .i64 kp, .int .i64 kw] 85)).alloc (.cells #[.int .i64 v1, .int .i64 v2] 217) := ⟨_, rfl⟩
          have Q8 : Below w'.heap.size w' W8 := by rw [hW8]; exact below_alloc (below_alloc (Below.refl _ _) _) _
          have hs6 := HS6.out
          have hz0 := HZ0.out
          have hob := BB.out.size
          have hmk := KK.out.lt
          have hmo := OO.out.lt
          have S8 := Aside0.mk ((KS.out.bx S2.out (by omega) (by omega)).below Q8)
          have C8 := Aside0.mk ((KS.out.bx C2.out (by omega) (by omega)).below Q8)
          have I8 := Aside0.mk (hit.below Q8)
          have E8 : Aside0 (W8.heap[W0.heap.size + 1]? = some (.map es clock)) := ⟨(Q8.block _ hit.map.lt).trans ((KS.out.block IT2.out.map.lt IT2.out.ne IT2.out.ne).trans HE2.out)⟩
          have K8 := Aside0.mk ((K2.out.move (KS.out.block K2.out.lt (by omega) (by omega))).below Q8)
          have N8 := Aside0.mk ((KS.out.bx N2.out (by omega) (by omega)).below Q8)
          have B8 := Aside0.mk (below_more (KS.out.below B2.out (show w.heap.size ≤ W6.heap.size by omega) (show w.heap.size ≤ W6.heap.size by omega) B2.out.size) Q8)
          have hsk := KS.out.size
          have Z8 := Aside0.mk (show W6.heap.size < W8.heap.size by have := Q8.size; omega)
          have X8 : Aside0 (Bx W8 w'.heap.size [.int .i64 kp, .int .i64 kw]) := ⟨by rw [hW8]; exact (Bx.new w' _ 85).alloc _⟩
          have V8 : Aside0 (Bx W8 (w'.heap.size + 1) [.int .i64 v1, .int .i64 v2]) := ⟨by
            rw [hW8]
            have := Bx.new (w'.alloc (.cells #[.int .i64 kp, .int .i64 kw] 85)) [.int .i64 v1, .int .i64 v2] 217
            rw [show (w'.alloc (.cells #[.int .i64 kp, .int .i64 kw] 85)).heap.size = w'.heap.size + 1 by simp] at this
            exact this⟩
          have HW8 := Aside0.mk hW8
          have HORD := Aside0.mk (show WO.heap.size + 1 < w'.heap.size by omega)
          have HOB := Aside0.mk hob
          clear hvb hmem h1 h2 hlt hw' hzz hit hW8 Q8 hs6 hz0 hob hmk hmo hsk
          have v0 := V8.out.c 0 _ rfl; have v1' := V8.out.c 1 _ rfl
          have c0' := C8.out.c 0 _ rfl; have c1' := C8.out.c 1 _ rfl
          go_upto_region 14 with (fail)
          rw [← HW8.out]
          go_wp2_with fail
          (with_reducible refine Calls.mono (costLess_any (v1, v2) (cc1, cc2) _) ?_)
          rintro e w9 ⟨rfl, b9⟩
          obtain ⟨lt, hlt2⟩ : ∃ b, b = ltC (v1, v2) (cc1, cc2) := ⟨_, rfl⟩
          rw [← hlt2]
          have HLT2 := Aside0.mk hlt2.symm
          have S9 := Aside0.mk (S8.out.below b9)
          have C9 := Aside0.mk (C8.out.below b9)
          have I9 := Aside0.mk (I8.out.below b9)
          have E9 : Aside0 (w9.heap[W0.heap.size + 1]? = some (.map es clock)) := ⟨(b9.block _ I8.out.map.lt).trans E8.out⟩
          have K9 := Aside0.mk (K8.out.below b9)
          have N9 := Aside0.mk (N8.out.below b9)
          have B9 := Aside0.mk (below_more B8.out b9)
          have Z9 := Aside0.mk (Nat.lt_of_lt_of_le Z8.out b9.size)
          have X9 := Aside0.mk (X8.out.below b9)
          have V9 := Aside0.mk (V8.out.below b9)
          clear v0 v1' c0' c1' hlt2 b9
          have M9 : ∀ W, Iter keyStep encC W (W0.heap.size + 1) W6.heap.size opn left' → W.heap[W0.heap.size + 1]? = some (.map es clock) → (leftOf es (W.iterSeen W6.heap.size)).size < (leftOf es (wr.iterSeen W6.heap.size)).size := fun W hi he => by
            obtain ⟨es', clock', h1, h2⟩ := hi.meas
            rw [he] at h1
            injection h1 with h1
            injection h1 with h1 _
            rw [← h1] at h2
            rw [h2, MS.out]
            exact HLT.out
          have HM9 := Aside0.mk M9
          clear M9
          cases lt with
          | false =>
            go_wp2_with fail
            go_roundw
            case rel => exact ⟨left', ⟨sp, sw⟩, (cc1, cc2), ⟨BI2.out.leave HMEM.out H1.out HLT2.out HVB.out⟩, I9, E9, S9, C9, K9, N9, B9, Z9⟩
            case measure => exact HM9.out _ I9.out E9.out
          | true =>
            have x0 := X9.out.c 0 _ rfl; have x1 := X9.out.c 1 _ rfl
            have v0 := V9.out.c 0 _ rfl; have v1' := V9.out.c 1 _ rfl
            have sf0 := S9.out.f 0; have sf1 := S9.out.f 1; have cf0 := C9.out.f 0; have cf1 := C9.out.f 1
            have sl := S9.out.lt; have cl := C9.out.lt
            have s0 := S9.out.c 0 _ rfl; have s1 := S9.out.c 1 _ rfl
            have c0' := C9.out.c 0 _ rfl; have c1' := C9.out.c 1 _ rfl
            have hd1 : ¬ (w'.heap.size + 1 = WO.heap.size) := by have := HORD.out; omega
            have hd2 : ¬ (w'.heap.size = WO.heap.size) := by have := HORD.out; omega
            have hd3 : ¬ (w'.heap.size = WO.heap.size + 1) := by have := HORD.out; omega
            have hd5 : ¬ (WO.heap.size = w'.heap.size + 1) := by have := HORD.out; omega
            have hd6 : ¬ (WO.heap.size = w'.heap.size) := by have := HORD.out; omega
            have hd7 : ¬ (WO.heap.size + 1 = w'.heap.size) := by have := HORD.out; omega
            obtain ⟨WS, hWS⟩ : ∃ WS, WS = ((((w9.setCell ⟨WO.heap.size, 0, none⟩ (.int .i64 kp)).setCell ⟨WO.heap.size, 1, none⟩ (.int .i64 kw)).setCell ⟨WO.heap.size + 1, 0, none⟩ (.int .i64 v1)).setCell ⟨WO.heap.size + 1, 1, none⟩ (.int .i64 v2)).drew := ⟨_, rfl⟩
            have hkeep : ∀ k, k ≠ WO.heap.size → k ≠ WO.heap.size + 1 → WS.heap[k]? = w9.heap[k]? := fun k h1 h2 => by
              rw [hWS]
              show ((((w9.setCell _ _).setCell _ _).setCell _ _).setCell _ _).heap[k]? = _
              rw [Below.heap_setCell _ _ _ k h2, Below.heap_setCell _ _ _ k h2, Below.heap_setCell _ _ _ k h1, Below.heap_setCell _ _ _ k h1]
            have hne1 : WO.heap.size ≠ WO.heap.size + 1 := by omega
            have hlo := HOB.out
            have hk0 := KK.out.lt
            have ho0 := OO.out.lt
            have hs6 := HS6.out
            have hz0 := HZ0.out
            have SS : Aside0 (Bx WS WO.heap.size [.int .i64 kp, .int .i64 kw]) := ⟨by rw [hWS]; exact ((((S9.out.set (i := 0) (by simp) _).set (i := 1) (by simp) _).far hne1 _).far hne1 _).drew⟩
            have CS : Aside0 (Bx WS (WO.heap.size + 1) [.int .i64 v1, .int .i64 v2]) := ⟨by rw [hWS]; exact ((((C9.out.far hne1.symm _).far hne1.symm _).set (i := 0) (by simp) _).set (i := 1) (by simp) _).drew⟩
            have IS := Aside0.mk (I9.out.move (hkeep _ (by omega) (by omega)) (hkeep _ (by omega) (by omega)))
            have ES : Aside0 (WS.heap[W0.heap.size + 1]? = some (.map es clock)) := ⟨(hkeep _ (by omega) (by omega)).trans E9.out⟩
            have KS2 := Aside0.mk (K9.out.move (hkeep _ (by omega) (by omega)))
            have NS : Aside0 (Bx WS w.heap.size [.slice (some ad0) n.pieces.length c0, .slice A1 n.joints.length c1]) := ⟨by rw [hWS]; exact ((((N9.out.far (by omega) _).far (by omega) _).far (by omega) _).far (by omega) _).drew⟩
            have BS : Aside0 (Below w.heap.size w WS) := ⟨by rw [hWS]; exact below_drew (below_set (below_set (below_set (below_set B9.out (by omega)) (by omega)) (show w.heap.size ≤ WO.heap.size + 1 by omega)) (show w.heap.size ≤ WO.heap.size + 1 by omega))⟩
            have ZS : Aside0 (W6.heap.size < WS.heap.size) := ⟨by have h := Z9.out; rw [hWS]; simpa [World.setCell, World.drew] using h⟩
            have HWS := Aside0.mk hWS
            clear hWS hkeep hne1 hlo hk0 ho0 hs6 hz0
            go_wp2_with fail
            go_region
            all_goals
              try go_wp2_with fail
              rw [← HWS.out]
              go_roundw
              case rel => exact ⟨left', ⟨kp, kw⟩, (v1, v2), ⟨BI2.out.take HMEM.out H1.out HLT2.out⟩, IS, ES, SS, CS, KS2, NS, BS, ZS⟩
              case measure => exact HM9.out _ IS.out ES.out
end Go.Proofs.Ytckcffjnffcjcaa
namespace Go.Proofs
open Go.Shelf
def Ytckcffjnffcjcaa.cmpInt_ren : Go.Shelf.Ren := ⟨fun | 5 => 166 | 7 => 188 | n => n, fun | 22 => 3 | 3 => 3 | 4 => 4 | n => n, fun | n => n⟩
theorem Ytckcffjnffcjcaa.cmpInt : Go.Proofs.SlLaysC2.n5 Try.prog Ytckcffjnffcjcaa.cmpInt_ren := {
  mixed := by kernel_rfl
  f5 := ⟨Try.f166.name, by decide, Try.func166.trans (congrArg some (by kernel_rfl))⟩
  f7 := ⟨Try.f188.name, by decide, Try.func188.trans (congrArg some (by kernel_rfl))⟩
  t3 := Try.underlying3
  a3 := Try.isAgg3
  z3 := Try.sizeOf3
  v3 := Try.zeroValue3
  t4 := Try.underlying4
  a4 := Try.isAgg4
  z4 := Try.sizeOf4
  v4 := Try.zeroValue4
  t22 := Try.underlying3
  a22 := Try.isAgg3
  z22 := Try.sizeOf3
  v22 := Try.zeroValue3 }
end Go.Proofs
namespace Go.Proofs.Ytckcffjnffcjcaa
open Go.RowKit Go.Proofs.YtckcffjnffcjcaaW.PrintWords
theorem cmpI (a b : Int) : (a < b ∧ Go.Lib.compareInt a b = -1) ∨ (a = b ∧ Go.Lib.compareInt a b = 0) ∨ (b < a ∧ Go.Lib.compareInt a b = 1) := by
  unfold Go.Lib.compareInt
  rcases Int.lt_trichotomy a b with h | h | h
  · exact .inl ⟨h, by simp [h]⟩
  · exact .inr (.inl ⟨h, by simp [h]⟩)
  · exact .inr (.inr ⟨h, by rw [if_neg (by omega), if_pos h]⟩)
end Go.Proofs.Ytckcffjnffcjcaa
namespace Go.Proofs.Ytckcffjnffcjcaa
open Go.RowKit Go.Proofs.YtckcffjnffcjcaaW.PrintWords
def neverC : CostT := (1152921504606846976, 0)
def PB (known : List (StepT × CostT)) (ts : List StepT) (nx : StepT) (c : CostT) : Prop :=
  (c = neverC ∧ ∀ t ∈ ts, lk known t = none) ∨ (nx ∈ ts ∧ lk known nx = some c ∧ c.1 ≤ 2010000000 ∧ ∀ t' ∈ ts, ∀ c', lk known t' = some c' → leC c c' ∧ (c = c' → stepLt t' nx = false))
section
variable {known : List (StepT × CostT)} {ts : List StepT} {nx t : StepT} {c ck : CostT}
theorem PB.start (nx : StepT) : PB known [] nx neverC := .inl ⟨rfl, fun t h => by cases h⟩
theorem PB.skip (h : PB known ts nx c) (hk : lk known t = none) : PB known (ts ++ [t]) nx c := by
  rcases h with ⟨h1, h2⟩ | ⟨h1, h2, h3, h4⟩
  · refine .inl ⟨h1, fun t' ht => ?_⟩
    rcases List.mem_append.1 ht with h | h
    · exact h2 t' h
    · rw [List.mem_singleton.1 h]; exact hk
  · refine .inr ⟨List.mem_append_left _ h1, h2, h3, fun t' ht c' hc => ?_⟩
    rcases List.mem_append.1 ht with h | h
    · exact h4 t' h c' hc
    · rw [List.mem_singleton.1 h, hk] at hc; cases hc
theorem PB.take (h : PB known ts nx c) (hk : lk known t = some ck) (hb : ck.1 ≤ 2010000000) (hl : ltC ck c = true ∨ (ck = c ∧ stepLt t nx = true)) : PB known (ts ++ [t]) t ck := by
  refine .inr ⟨List.mem_append_right _ List.mem_cons_self, hk, hb, fun t' ht c' hc => ?_⟩
  rcases List.mem_append.1 ht with h5 | h5
  · rcases h with ⟨h1, h2⟩ | ⟨h1, h2, h3, h4⟩
    · rw [h2 t' h5] at hc; cases hc
    · obtain ⟨h6, h7⟩ := h4 t' h5 c' hc
      rcases hl with hl | ⟨hl, hs⟩
      · refine ⟨leC_trans (ltC_le hl) h6, fun e => ?_⟩
        subst e
        rw [leC_iff] at h6
        rw [hl] at h6; cases h6
      · subst hl
        refine ⟨h6, fun e => ?_⟩
        have h8 := h7 e
        rw [Bool.eq_false_iff, ne_eq, stepLt_iff] at h8 ⊢
        rw [stepLt_iff] at hs
        omega
  · rw [List.mem_singleton.1 h5, hk] at hc
    injection hc with hc
    rw [List.mem_singleton.1 h5, ← hc]
    exact ⟨leC_refl _, fun _ => stepLt_irrefl t⟩
theorem PB.leave (h : PB known ts nx c) (hk : lk known t = some ck) (hb : ck.1 ≤ 2010000000) (hl : ltC ck c = false) (hs : ck = c → stepLt t nx = false) : PB known (ts ++ [t]) nx c := by
  rcases h with ⟨h1, h2⟩ | ⟨h1, h2, h3, h4⟩
  · have : ltC ck c = true := by rw [h1, ltC_iff]; left; show ck.1 < 1152921504606846976; omega
    rw [this] at hl; cases hl
  · refine .inr ⟨List.mem_append_left _ h1, h2, h3, fun t' ht c' hc => ?_⟩
    rcases List.mem_append.1 ht with h5 | h5
    · exact h4 t' h5 c' hc
    · rw [List.mem_singleton.1 h5, hk] at hc
      injection hc with hc
      rw [List.mem_singleton.1 h5, ← hc]
      exact ⟨leC_iff.2 hl, fun e => hs e.symm⟩
theorem PB.pick {n : NetT} {s : StepT} (h : PB known (succS n s) nx c) (hc : c.1 ≠ 1152921504606846976) : IsPick n known s nx c := by
  rcases h with ⟨h1, h2⟩ | ⟨h1, h2, h3, h4⟩
  · exact absurd (by rw [h1]; rfl) hc
  · exact ⟨h2, h1, fun t' c' ht hk => h4 t' ht c' hk⟩
theorem PB.none_ {n : NetT} {s : StepT} (h : PB known (succS n s) nx c) (hc : c.1 = 1152921504606846976) : ∀ t ∈ succS n s, lk known t = none := by
  rcases h with ⟨h1, h2⟩ | ⟨h1, h2, h3, h4⟩
  · exact h2
  · omega
end
section
variable {n : NetT} {fin : StepT} {inb : Int} {known : List (StepT × CostT)}
theorem pick_down (hk : Costs n fin inb known) (hg : Good n) {s t : StepT} {cs c : CostT} (hs : lk known s = some cs) (hne : s ≠ fin) (hp : IsPick n known s t c) : c.2 + 1 = cs.2 := by
  obtain ⟨hm, hsok, _⟩ := hk.some_ s cs hs
  obtain ⟨his, hle⟩ := hm
  cases his with
  | here => exact absurd rfl hne
  | @step _ t' c' ht' hc' =>
    have ht'ok := succ_ok hg hsok ht'
    obtain ⟨ck, hck⟩ := hk.all t' c' ht'ok hc'
    have h1 := (hk.some_ t' ck hck).1.le c' hc'
    have h2 := (hp.b t' ck ht' hck).1
    have h3 := hle _ (Cst.step hp.m (hk.some_ t c hp.k).1.is)
    have h4 := leC_trans h2 h1
    unfold leC at h3 h4
    simp only at h3 h4 ⊢
    omega
def GrP (n : NetT) (known : List (StepT × CostT)) (fin : StepT) : StepT → List StepT → StepT → Prop
  | t, [], s => s = t
  | t, u :: l, s => t ≠ fin ∧ (∃ c, IsPick n known t u c) ∧ GrP n known fin u l s
theorem GrP.snoc {l : List StepT} : ∀ {t s u : StepT} {c : CostT}, GrP n known fin t l s → s ≠ fin → IsPick n known s u c → GrP n known fin t (l ++ [u]) u := by
  induction l with
  | nil =>
    intro t s u c h hne hp
    obtain rfl : s = t := h
    exact ⟨hne, ⟨c, hp⟩, rfl⟩
  | cons v l ih =>
    intro t s u c h hne hp
    exact ⟨h.1, h.2.1, ih h.2.2 hne hp⟩
theorem GrP.done {l : List StepT} : ∀ {t : StepT}, GrP n known fin t l fin → Gr n known fin t l := by
  induction l with
  | nil => intro t h; exact h.symm
  | cons v l ih => intro t h; exact ⟨h.1, h.2.1, ih h.2.2⟩
theorem fin_cost (hk : Costs n fin inb known) (hg : Good n) (h0 : 0 ≤ inb) {c : CostT} (hc : lk known fin = some c) : c.2 = 1 := by
  obtain ⟨hm, hsok, h1, h2, h3, h4⟩ := hk.some_ fin c hc
  have h5 := hm.le _ Cst.here
  obtain ⟨his, hle⟩ := hm
  cases his with
  | here => rfl
  | @step _ t' c' ht' hc' =>
    have ht'ok := succ_ok hg hsok ht'
    obtain ⟨ck, hck⟩ := hk.all t' c' ht'ok hc'
    have h6 := hk.some_ t' ck hck
    have h7 := h6.1.le c' hc'
    have h8 := hg.lenS hsok
    have hfm : ∀ {s c}, Cst n fin inb s c → stepB n s = true → inb ≤ c.1 := fun {s c} h => by
      induction h with
      | here => intro _; exact Int.le_refl _
      | step ht _ ih =>
        intro hs
        have h9 := ih (succ_ok hg hs ht)
        have h10 := hg.lenS hs
        simp only
        omega
    have h11 := hfm hc' ht'ok
    unfold leC at h5
    simp only at h5
    omega
end
noncomputable def shortT (n : NetT) (a b : SpotT) (o : Bool) : PathT := if (!o && directB a b) = true then ⟨true, (b.at_ - a.at_) * a.way, [stepOf a], []⟩ else farV n a b
def SP (n : NetT) (known : List (StepT × CostT)) (a b : SpotT) (l : List StepT) (s : StepT) (far : Int) : Prop :=
  stepB n s = true ∧ ((l = [] ∧ s = stepOf a ∧ far = roomS n a) ∨ ∃ t l' c1 cs, l = t :: l' ∧ IsPick n known (stepOf a) t c1 ∧ GrP n known (stepOf b) t l' s ∧ lk known s = some cs ∧ s ≠ stepOf b ∧ far = roomS n a + c1.1 ∧ 0 ≤ c1.1 ∧ c1.1 ≤ 2010000000 ∧ (l.length : Int) + cs.2 ≤ 202)
section
variable {n : NetT} {known : List (StepT × CostT)} {a b : SpotT} {l : List StepT} {s nx : StepT} {c : CostT} {far : Int}
theorem SP.start (ha : spotB n a = true) : SP n known a b [] (stepOf a) (roomS n a) := ⟨stepOf_ok ha, .inl ⟨rfl, rfl, rfl⟩⟩
theorem SP.len (hk : Costs n (stepOf b) (inbS n b) known) (h : SP n known a b l s far) : l.length ≤ 201 := by
  obtain ⟨_, h⟩ := h
  rcases h with ⟨h, _⟩ | ⟨t, l', c1, cs, h1, h2, h3, h4, h5, h6, h7, h8, h9⟩
  · rw [h]; simp
  · have := (hk.some_ s cs h4).2.2.2.2
    omega
theorem SP.none_ (hk : Costs n (stepOf b) (inbS n b) known) (hg : Good n) (ha : spotB n a = true) (h : SP n known a b l s far) (hn : ∀ t ∈ succS n s, lk known t = none) : farV n a b = noPath := by
  obtain ⟨_, h⟩ := h
  rcases h with ⟨h1, h2, _⟩ | ⟨t, l', c1, cs, h1, h2, h3, h4, h5, h6, h7, h8, h9⟩
  · rw [h2] at hn
    unfold farV
    rw [shortL_none (no_pick hk hg (stepOf_ok ha) hn)]
  · obtain ⟨t', ht', ct, hct, _⟩ := goes_on hk hg h4 h5
    rw [hn t' ht'] at hct; cases hct
theorem SP.next (hk : Costs n (stepOf b) (inbS n b) known) (hg : Good n) (ha : spotB n a = true) (h : SP n known a b l s far) (hp : IsPick n known s nx c) (hne : nx ≠ stepOf b) : SP n known a b (l ++ [nx]) nx (if l = [] then far + c.1 else far) := by
  obtain ⟨hs, h⟩ := h
  obtain ⟨_, hn1, hn2, hn3, hn4, hn5⟩ := hk.some_ nx c hp.k
  refine ⟨hn1, .inr ?_⟩
  rcases h with ⟨h1, h2, h3⟩ | ⟨t, l', c1, cs, h1, h2, h3, h4, h5, h6, h7, h8, h9⟩
  · subst h1
    rw [h2] at hp
    exact ⟨nx, [], c, c, rfl, hp, rfl, hp.k, hne, by rw [if_pos rfl, h3], hn2, hn3, by simp; omega⟩
  · refine ⟨t, l' ++ [nx], c1, c, by rw [h1]; rfl, h2, h3.snoc h5 hp, hp.k, hne, by rw [if_neg (by rw [h1]; simp), h6], h7, h8, ?_⟩
    have := pick_down hk hg h4 h5 hp
    rw [List.length_append, List.length_singleton]
    push_cast
    omega
theorem SP.done (hk : Costs n (stepOf b) (inbS n b) known) (hg : Good n) (ha : spotB n a = true) (h : SP n known a b l s far) (hp : IsPick n known s nx c) (he : nx = stepOf b) :
    farV n a b = ⟨true, if l = [] then far + c.1 else far, stepOf a :: (l ++ [nx]), (liesAll n (stepOf a :: (l ++ [nx]))).getD []⟩ ∧ stepsB n (stepOf a :: (l ++ [nx])) = true := by
  have hl := SP.len hk h
  obtain ⟨hs, h⟩ := h
  subst he
  have key : ∃ t l' c1, l ++ [stepOf b] = t :: l' ∧ IsPick n known (stepOf a) t c1 ∧ Gr n known (stepOf b) t l' ∧ (if l = [] then far + c.1 else far) = roomS n a + c1.1 := by
    rcases h with ⟨h1, h2, h3⟩ | ⟨t, l', c1, cs, h1, h2, h3, h4, h5, h6, h7, h8, h9⟩
    · subst h1
      rw [h2] at hp
      exact ⟨_, [], c, rfl, hp, rfl, by rw [if_pos rfl, h3]⟩
    · exact ⟨t, l' ++ [stepOf b], c1, by rw [h1]; rfl, h2, (h3.snoc h5 hp).done, by rw [if_neg (by rw [h1]; simp), h6]⟩
  obtain ⟨t, l', c1, e1, e2, e3, e4⟩ := key
  obtain ⟨hL, hw⟩ := greedy_least hk hg (stepOf_ok ha) e2 e3
  refine ⟨?_, ?_⟩
  · unfold farV
    rw [e1, shortL_some hL, e4, hw]
    show (⟨true, _, _, _⟩ : PathT) = ⟨true, _, _, _⟩
    have : lenS n (stepOf b) = lenP n b.piece := rfl
    rw [this]
    congr 1
    show roomS n a + (weighS n (t :: l') - lenP n b.piece) + inOf n b = roomS n a + (weighS n (t :: l') - lenP n b.piece + inOf n b)
    omega
  · rw [e1]
    unfold stepsB
    have hlen : (t :: l').length ≤ 202 := by rw [← e1, List.length_append, List.length_singleton]; omega
    have hall : ∀ x ∈ stepOf a :: t :: l', stepB n x = true := fun x hx => by
      rcases List.mem_cons.1 hx with h | h
      · rw [h]; exact stepOf_ok ha
      · exact follows_ok hg (stepOf_ok ha) hL.f x h
    simp only [Bool.and_eq_true, decide_eq_true_eq, List.all_eq_true]
    exact ⟨by rw [List.length_cons]; omega, hall⟩
end
def or2 (a b : Int) : Int := if a ≠ 0 then a else b
set_option maxRecDepth 100000 in
set_option maxHeartbeats 4000000 in
theorem cmpOr2_any (g : Nat) (a b : Int) (w : World) (h : Bx w g [.int .i64 a, .int .i64 b]) :
    Calls Try.prog 165 #[.slice (some ⟨g, 0, none⟩) 2 2] w fun e w' => e = .returned (.int .i64 (or2 a b)) ∧ w' = w := by
  have H := Aside0.mk h
  clear h
  go_enter Try.func165, Try.ntmps165
  go_wp2_with fail
  go_loopw [8] (fun v8 wr => ∃ (i : Nat), v8 = .int .i64 (i : Int) ∧ i ≤ 2 ∧ Aside0 (wr = w) ∧ (0 < i → a = 0) ∧ (1 < i → b = 0)) (fun v8 _ => 2 - (intOf v8).toNat)
  case atStart => exact ⟨0, rfl, by omega, ⟨rfl⟩, fun h => by omega, fun h => by omega⟩
  case round =>
    obtain ⟨i, rfl, hi, ⟨rfl⟩, h1, h2⟩ := hrel
    by_cases hlt : i < 2
    · obtain ⟨v, hv, hva, hvb⟩ : ∃ v : Int, [Value.int .i64 a, .int .i64 b][i]? = some (.int .i64 v) ∧ (i = 0 → v = a) ∧ (i = 1 → v = b) := by
        rcases (by omega : i = 0 ∨ i = 1) with e | e <;> subst e
        · exact ⟨a, rfl, fun _ => rfl, fun h => by omega⟩
        · exact ⟨b, rfl, fun h => by omega, fun _ => rfl⟩
      have y := H.out.c i _ hv
      have hlt1 : (i : Int) < 2 := by omega
      have hlt0 : (0 : Int) ≤ (i : Int) := by omega
      have H1 := Aside0.mk h1; have H2 := Aside0.mk h2
      have HA := Aside0.mk hva; have HB := Aside0.mk hvb
      clear hv h1 h2 hva hvb
      by_cases hv0 : v = 0
      · have e0 : (v == 0) = true := by simpa using hv0
        have HV0 := Aside0.mk hv0
        clear hv0
        go_wp2_with fail
        go_roundw
        case rel =>
          have h1 := H1.out; have h2 := H2.out; have ha := HA.out; have hb := HB.out; have hv0 := HV0.out
          exact ⟨i + 1, by go_num, by omega, ⟨by first | trivial | rfl⟩, fun h => by omega, fun h => by omega⟩
        case measure => simp [intOf]; omega
      · have e0 : (v == 0) = false := by simpa using hv0
        have HV0 := Aside0.mk hv0
        clear hv0
        have HR : Aside0 (or2 a b = v) := ⟨by
          have h1 := H1.out; have ha := HA.out; have hb := HB.out; have hv0 := HV0.out
          unfold or2
          rcases (by omega : i = 0 ∨ i = 1) with e | e
          · rw [← ha e, if_pos hv0]
          · rw [if_neg (by have := h1 (by omega); omega), ← hb e]⟩
        go_wp2_with fail
        go_ret
        exact ⟨by rw [HR.out]; rfl, rfl⟩
    · have hge : ¬ (i : Int) < 2 := by omega
      have HR : Aside0 (or2 a b = 0) := ⟨by unfold or2; rw [if_neg (by have := h1 (by omega); omega)]; exact h2 (by omega)⟩
      go_wp2_with fail
      go_ret
      exact ⟨by rw [HR.out]; rfl, rfl⟩
theorem cmpStep (t x : StepT) : decide (or2 (Go.Lib.compareInt t.piece x.piece) (Go.Lib.compareInt t.way x.way) < 0) = stepLt t x := by
  unfold stepLt or2
  rcases cmpI t.piece x.piece with ⟨h, e⟩ | ⟨h, e⟩ | ⟨h, e⟩ <;> rw [e] <;> rcases cmpI t.way x.way with ⟨h2, e2⟩ | ⟨h2, e2⟩ | ⟨h2, e2⟩ <;> rw [e2] <;> simp <;> omega
end Go.Proofs.Ytckcffjnffcjcaa
namespace Go.Proofs.Ytckcffjnffcjcaa
open Go.RowKit Go.Proofs.YtckcffjnffcjcaaW.PrintWords
theorem Bx.underL {W w1 : World} {base b : Nat} {vs : List Value} (h : Bx W b vs) (hb : Below base W w1) (hlt : b < base) : Bx w1 b vs :=
  ⟨Nat.lt_of_lt_of_le h.lt hb.size, fun i v hv => (hb.cell (p := ⟨b, i, none⟩) hlt).trans (h.c i v hv), fun i => (hb.frozen (p := ⟨b, i, none⟩) hlt).trans (h.f i)⟩
theorem below_lowerL {a b : Nat} {w w1 w2 : World} (h : Below a w w1) (k : Below b w1 w2) (hab : a ≤ b) : Below a w w2 :=
  h.trans ⟨k.os, k.tape, k.output, k.size, fun i hi => k.block i (Nat.lt_of_lt_of_le hi hab)⟩
abbrev SlT := Option Addr × Nat × Nat
def kSl : Kd SlT := Kd.scalar encH (fun _ => rfl)
structure RR (W : World) (base sb : Nat) (ok : Nat → Prop) (v : Value) (hl : List SlT) (ll : List (List StepT)) : Prop where
  outer : Kd.R kSl 83 W base ok v hl
  len : hl.length = ll.length
  each : ∀ i, i < ll.length → ∃ A c, hl.getD i default = (A, (ll.getD i default).length, c) ∧ Kd.R kStep 85 W sb (fun _ => True) (.slice A (ll.getD i default).length c) (ll.getD i default)
section
variable {W W1 : World} {base sb : Nat} {ok : Nat → Prop} {v : Value} {hl : List SlT} {ll : List (List StepT)}
theorem RR.slice (h : RR W base sb ok v hl ll) : ∃ A c, v = .slice A ll.length c := by
  obtain ⟨A, c, e⟩ := Kd.R_slice h.outer
  exact ⟨A, c, by rw [e, h.len]⟩
end
end Go.Proofs.Ytckcffjnffcjcaa
namespace Go.Proofs.Ytckcffjnffcjcaa
open Go.RowKit Go.Proofs.YtckcffjnffcjcaaW.PrintWords
theorem lexB_diff : ∀ {l m : List StepT} {i : Nat}, l.length = m.length → i < l.length → (∀ k, k < i → l.getD k default = m.getD k default) → l.getD i default ≠ m.getD i default → lexB l m = stepLt (l.getD i default) (m.getD i default)
  | [], _, i, _, hi, _, _ => by simp at hi
  | a :: l, [], i, hl, _, _, _ => by simp at hl
  | a :: l, b :: m, 0, _, _, _, hd => by
    have hd' : a ≠ b := hd
    simp only [lexB, if_neg hd']
    rfl
  | a :: l, b :: m, i + 1, hl, hi, hp, hd => by
    have h0 : a = b := hp 0 (by omega)
    subst h0
    simp only [lexB, if_true]
    exact lexB_diff (by simpa using hl) (by simpa using hi) (fun k hk => hp (k + 1) (by omega)) hd
theorem lexB_same {l m : List StepT} (hl : l.length = m.length) (hp : ∀ k, k < l.length → l.getD k default = m.getD k default) : lexB l m = false := by
  have : l = m := by
    apply List.ext_getElem hl
    intro i h1 h2
    have := hp i h1
    rwa [getD_at l i h1, getD_at m i h2] at this
  rw [this]; exact lexB_irrefl m
set_option maxRecDepth 100000 in
set_option maxHeartbeats 4000000 in
theorem l4less_any (x y : CarT) (A : Option Addr) (c : Nat) (B : Option Addr) (d : Nat) (w : World) (hx : Kd.C kStep w A x.steps.length x.steps) (hy : Kd.C kStep w B y.steps.length y.steps) :
    Calls Try.prog 153 #[.agg #[.int .i64 x.spot.piece, .int .i64 x.spot.at_, .int .i64 x.spot.way, .int .i64 x.far, .slice A x.steps.length c], .agg #[.int .i64 y.spot.piece, .int .i64 y.spot.at_, .int .i64 y.spot.way, .int .i64 y.far, .slice B y.steps.length d]] w
      fun e w' => e = .returned (.bool (lessCar x y)) ∧ Below w.heap.size w w' := by
  obtain ⟨⟨xp, xa, xw⟩, xf, l⟩ := x
  obtain ⟨⟨yp, ya, yw⟩, yf, m⟩ := y
  simp only at hx hy ⊢
  have hm0 := hx.2.1
  have hm1 := hy.2.1
  have HX := Aside0.mk hx
  have HY := Aside0.mk hy
  obtain ⟨W0, hW0, hBX, hBY, fb0, hz0⟩ := box2 w [.int .i64 xp, .int .i64 xa, .int .i64 xw, .int .i64 xf, .slice A l.length c] [.int .i64 yp, .int .i64 ya, .int .i64 yw, .int .i64 yf, .slice B m.length d] 172 172
  have BX := Aside0.mk hBX
  have BY := Aside0.mk hBY
  have FB := Aside0.mk fb0
  have HW := Aside0.mk hW0
  clear hx hy hW0 hBX hBY fb0 hz0
  by_cases hf : xf = yf
  · subst hf
    have hfb : (xf != xf) = false := by simp
    by_cases hl : l.length = m.length
    · have hlb : ((l.length : Int) != (m.length : Int)) = false := by simp [hl]
      have HL := Aside0.mk hl
      have HV := Aside0.mk (show lessCar ⟨⟨xp, xa, xw⟩, xf, l⟩ ⟨⟨yp, ya, yw⟩, xf, m⟩ = lexB l m by unfold lessCar; simp [hl])
      clear hl
      go_enter Try.func153, Try.ntmps153
      go_wp2_with fail
      try rw [← HW.out]
      go_loopw [35] (fun v35 wr => ∃ i : Nat, v35 = .int .i64 (i : Int) ∧ i ≤ l.length ∧ Aside0 (∀ k, k < i → l.getD k default = m.getD k default) ∧ Aside0 (Below W0.heap.size W0 wr)) (fun v35 _ => l.length - (intOf v35).toNat)
      case atStart => exact ⟨0, rfl, Nat.zero_le _, ⟨fun k hk => by omega⟩, ⟨Below.refl _ _⟩⟩
      case round =>
        obtain ⟨i, rfl, hi, HT, HBr⟩ := hrel
        by_cases hlt : i < l.length
        · have hltm : i < m.length := by rw [← HL.out]; exact hlt
          have hbw := below_more FB.out HBr.out
          obtain ⟨ad0, e0, x0, x1⟩ := at_Step HX.out i hlt
          obtain ⟨ad1, e1, y0, y1⟩ := at_Step HY.out i hltm
          subst e0
          subst e1
          obtain ⟨⟨sp, sw⟩, hs⟩ : ∃ s, s = l.getD i default := ⟨_, rfl⟩
          obtain ⟨⟨tp, tw⟩, ht⟩ : ∃ t, t = m.getD i default := ⟨_, rfl⟩
          rw [← hs] at x0 x1
          rw [← ht] at y0 y1
          replace x0 := pw_cell_below hbw x0
          replace x1 := pw_cell_below hbw x1
          replace y0 := pw_cell_below (below_alloc hbw (.cells #[.int .i64 sp, .int .i64 sw] 85)) y0
          replace y1 := pw_cell_below (below_alloc hbw (.cells #[.int .i64 sp, .int .i64 sw] 85)) y1
          have X1 := Aside0.mk (BX.out.below HBr.out)
          have Y1 := Aside0.mk ((BY.out.below HBr.out).alloc (.cells #[.int .i64 sp, .int .i64 sw] 85))
          have bx4 := X1.out.c 4 _ rfl; have by4 := Y1.out.c 4 _ rfl
          have S1 := Aside0.mk ((Bx.new wr [.int .i64 sp, .int .i64 sw] 85).alloc (.cells #[.int .i64 tp, .int .i64 tw] 85))
          have B1 := Aside0.mk (below_alloc (below_alloc HBr.out (.cells #[.int .i64 sp, .int .i64 sw] 85)) (.cells #[.int .i64 tp, .int .i64 tw] 85))
          have BW := Aside0.mk (below_more FB.out B1.out)
          have s0 := S1.out.c 0 _ rfl; have s1 := S1.out.c 1 _ rfl
          have HD := Aside0.mk (show (⟨sp, sw⟩ : StepT) ≠ ⟨tp, tw⟩ → lexB l m = stepLt ⟨sp, sw⟩ ⟨tp, tw⟩ from fun hne => by
            have := lexB_diff HL.out hlt HT.out (by rw [← hs, ← ht]; exact hne)
            rw [← hs, ← ht] at this; exact this)
          have HE := Aside0.mk (show (⟨sp, sw⟩ : StepT) = ⟨tp, tw⟩ → l.getD i default = m.getD i default from fun he => by rw [← hs, ← ht]; exact he)
          clear hs ht hbw
          by_cases h1 : sp = tp
          · by_cases h2 : sw = tw
            · have HE2 := Aside0.mk (HE.out (by rw [h1, h2]))
              have h1b : (sp != tp) = false := by simpa using h1
              have h2b : (sw != tw) = false := by simpa using h2
              clear h1 h2
              go_wp2_with fail
              go_roundw
              case rel => exact ⟨i + 1, by go_num, by omega, ⟨fun k hk => by
                by_cases hki : k < i
                · exact HT.out k hki
                · have : k = i := by omega
                  subst this; exact HE2.out⟩, B1⟩
              case measure => simp [intOf]; omega
            · have HD2 := Aside0.mk (HD.out (fun e => h2 (by injection e)))
              have HST : Aside0 (stepLt ⟨sp, sw⟩ ⟨tp, tw⟩ = decide (sw < tw)) := ⟨by unfold stepLt; simp [h1]⟩
              have h1b : (sp != tp) = false := by simpa using h1
              have h2b : (sw != tw) = true := by simpa using h2
              clear h1 h2
              go_wp2_with fail
              go_ret
              exact ⟨by rw [HV.out, HD2.out, HST.out]; rfl, BW.out⟩
          · have HD2 := Aside0.mk (HD.out (fun e => h1 (by injection e)))
            have HST : Aside0 (stepLt ⟨sp, sw⟩ ⟨tp, tw⟩ = decide (sp < tp)) := ⟨by unfold stepLt; simp [h1]⟩
            have h1b : (sp != tp) = true := by simpa using h1
            clear h1
            go_wp2_with fail
            go_ret
            exact ⟨by rw [HV.out, HD2.out, HST.out]; rfl, BW.out⟩
        · have HS := Aside0.mk (lexB_same HL.out (fun k hk => HT.out k (by omega)))
          have BW := Aside0.mk (below_more FB.out HBr.out)
          go_wp2_with fail
          go_ret
          exact ⟨by rw [HV.out, HS.out]; rfl, BW.out⟩
    · have hlb : ((l.length : Int) != (m.length : Int)) = true := by simp; omega
      have HV := Aside0.mk (show lessCar ⟨⟨xp, xa, xw⟩, xf, l⟩ ⟨⟨yp, ya, yw⟩, xf, m⟩ = decide (l.length < m.length) by unfold lessCar; simp [hl])
      clear hl
      go_enter Try.func153, Try.ntmps153
      go_wp2_with fail
      go_ret
      exact ⟨by rw [HV.out]; rfl, below_two _ _ _⟩
  · have hfb : (xf != yf) = true := by simpa using hf
    have HV := Aside0.mk (show lessCar ⟨⟨xp, xa, xw⟩, xf, l⟩ ⟨⟨yp, ya, yw⟩, yf, m⟩ = decide (xf < yf) by unfold lessCar; simp [hf])
    clear hf
    go_enter Try.func153, Try.ntmps153
    go_wp2_with fail
    go_ret
    exact ⟨by rw [HV.out]; rfl, below_two _ _ _⟩
end Go.Proofs.Ytckcffjnffcjcaa
namespace Go.Proofs.Ytckcffjnffcjcaa
open Go.RowKit Go.Proofs.YtckcffjnffcjcaaW.PrintWords
def hdrOf (x : CarT) (A : Option Addr) (c : Nat) : HdrT := (x.spot.piece, x.spot.at_, x.spot.way, x.far, (A, x.steps.length, c))
structure CR (W : World) (base sb : Nat) (ok : Nat → Prop) (v : Value) (hl : List HdrT) (cl : List CarT) : Prop where
  outer : Kd.R kHdr 172 W base ok v hl
  len : hl.length = cl.length
  each : ∀ i, i < cl.length → ∃ A c, hl.getD i default = hdrOf (cl.getD i default) A c ∧ Kd.R kStep 85 W sb (fun _ => True) (.slice A (cl.getD i default).steps.length c) (cl.getD i default).steps
section
variable {W W1 : World} {base sb : Nat} {ok : Nat → Prop} {v : Value} {hl : List HdrT} {cl : List CarT}
theorem CR.nil (W : World) (base sb : Nat) (ok : Nat → Prop) : CR W base sb ok (.slice none 0 0) [] [] := ⟨Kd.R_nil .., rfl, fun i hi => absurd hi (by simp)⟩
theorem CR.below (h : CR W base sb ok v hl cl) (hb : Below W.heap.size W W1) : CR W1 base sb ok v hl cl :=
  ⟨Kd.R_below h.outer hb, h.len, fun i hi => by obtain ⟨A, c, h1, h2⟩ := h.each i hi; exact ⟨A, c, h1, Kd.R_below h2 hb⟩⟩
theorem CR.mono {ok' : Nat → Prop} (h : CR W base sb ok v hl cl) (hk : ∀ k, ok k → k < W.heap.size → base ≤ k → ok' k) : CR W base sb ok' v hl cl :=
  ⟨Kd.R_mono (Kd.R_bound h.outer) (fun k hk2 => hk k hk2.1 hk2.2.2.1 hk2.2.1), h.len, h.each⟩
theorem CR.lower {base' : Nat} (h : CR W base sb ok v hl cl) (hb : base' ≤ base) : CR W base' sb ok v hl cl := ⟨Kd.R_lower h.outer hb, h.len, h.each⟩
theorem CR.grown {row : Option Nat} (h : CR W base sb ok v hl cl) (hg : W.grownBy W1 row) (hrow : ∀ k, ok k → some k ≠ row) (hty : ∀ g, row = some g → ∃ cells t, W.heap[g]? = some (.cells cells t (0, 0)) ∧ t ≠ 85) : CR W1 base sb ok v hl cl :=
  ⟨Kd.R_grown h.outer hg hrow, h.len, fun i hi => by
    obtain ⟨A, c, h1, h2⟩ := h.each i hi
    refine ⟨A, c, h1, Kd.R_mono (Kd.R_grown (Kd.R_bound h2) hg (fun k hk he => ?_)) (fun _ _ => trivial)⟩
    obtain ⟨q, hq, cells, hc⟩ := hk.2.2.2
    obtain ⟨cells', t, hc', ht⟩ := hty k he.symm
    rw [hc] at hc'
    injection hc' with hc'
    injection hc' with _ hc' _
    have : q = 85 := by simpa [kStep, Kd.iso, Kd.pair, Kd.int, Kd.scalar] using hq
    exact ht (by rw [← hc', this])⟩
theorem CR.push {v1 : Value} {x : CarT} {A : Option Addr} {c : Nat} (h : CR W base sb ok v hl cl) (hg : W.grownBy W1 v.ownBlock) (hv : ∀ g, v.ownBlock = some g → ∃ cells t, W.heap[g]? = some (.cells cells t (0, 0)) ∧ t ≠ 85)
    (ho : Kd.R kHdr 172 W1 base ok v1 (hl ++ [hdrOf x A c])) (hx : Kd.R kStep 85 W sb (fun _ => True) (.slice A x.steps.length c) x.steps) : CR W1 base sb ok v1 (hl ++ [hdrOf x A c]) (cl ++ [x]) := by
  have keep : ∀ {B : Option Addr} {d : Nat} {ys : List StepT}, Kd.R kStep 85 W sb (fun _ => True) (.slice B ys.length d) ys → Kd.R kStep 85 W1 sb (fun _ => True) (.slice B ys.length d) ys := fun h2 =>
    Kd.R_mono (Kd.R_grown (Kd.R_bound h2) hg (fun k hk he => by
      obtain ⟨q, hq, cells, hc⟩ := hk.2.2.2
      obtain ⟨cells', t, hc', ht⟩ := hv k he.symm
      rw [hc] at hc'
      injection hc' with hc'
      injection hc' with _ hc' _
      have : q = 85 := by simpa [kStep, Kd.iso, Kd.pair, Kd.int, Kd.scalar] using hq
      exact ht (by rw [← hc', this]))) (fun _ _ => trivial)
  refine ⟨ho, by simp [h.len], fun i hi => ?_⟩
  by_cases hij : i < cl.length
  · obtain ⟨B, d, h1, h2⟩ := h.each i hij
    rw [show (cl ++ [x]).getD i default = cl.getD i default by rw [List.getD_eq_getElem?_getD, List.getD_eq_getElem?_getD, List.getElem?_append_left hij]]
    refine ⟨B, d, ?_, keep h2⟩
    rw [List.getD_eq_getElem?_getD, List.getElem?_append_left (by rw [h.len]; exact hij), ← List.getD_eq_getElem?_getD]
    exact h1
  · have e : i = cl.length := by simp at hi; omega
    subst e
    rw [show (cl ++ [x]).getD cl.length default = x by rw [List.getD_eq_getElem?_getD, List.getElem?_append_right (Nat.le_refl _)]; simp]
    exact ⟨A, c, by rw [List.getD_eq_getElem?_getD, List.getElem?_append_right (by rw [h.len]; exact Nat.le_refl _), h.len]; simp, keep hx⟩
theorem CR.at_ (h : CR W base sb ok v hl cl) {i : Nat} (hi : i < cl.length) : ∃ ad c0 B d, v = .slice (some ad) cl.length c0 ∧ W.cell? (ad.add (i * 5)) = some (.int .i64 (cl.getD i default).spot.piece) ∧ W.cell? ⟨(ad.add (i * 5)).block, (ad.add (i * 5)).off + 1, none⟩ = some (.int .i64 (cl.getD i default).spot.at_) ∧ W.cell? ⟨(ad.add (i * 5)).block, (ad.add (i * 5)).off + 2, none⟩ = some (.int .i64 (cl.getD i default).spot.way) ∧ W.cell? ⟨(ad.add (i * 5)).block, (ad.add (i * 5)).off + 3, none⟩ = some (.int .i64 (cl.getD i default).far) ∧ W.cell? ⟨(ad.add (i * 5)).block, (ad.add (i * 5)).off + 4, none⟩ = some (.slice B (cl.getD i default).steps.length d) ∧ Kd.R kStep 85 W sb (fun _ => True) (.slice B (cl.getD i default).steps.length d) (cl.getD i default).steps := by
  obtain ⟨A, c0, e, h1, h2⟩ := Kd.R_reads h.outer
  obtain ⟨ad, c, e2, _, hK, hc0⟩ := Kd.C_get h2 default (i : Int) (by omega) (by have := h.len; omega)
  rw [Int.toNat_natCast] at hK hc0
  have hc : ∀ j u, c[j]? = some u → W.cell? (ad.add (i * 5 + j)) = some u := hc0
  obtain ⟨B, d, h3, h4⟩ := h.each i hi
  obtain rfl := kHdr_open hK
  have hg : hl.getD i default = hdrOf (cl.getD i default) B d := h3
  have hc' : ∀ j u, (hdrVals (hdrOf (cl.getD i default) B d))[j]? = some u → W.cell? (ad.add (i * 5 + j)) = some u := by
    rw [← hg]; exact hc
  refine ⟨ad, c0, B, d, by rw [e, e2, h.len], hc' 0 _ rfl, by rw [← add_field _ _ 1 (by omega)]; exact hc' 1 _ rfl, by rw [← add_field _ _ 2 (by omega)]; exact hc' 2 _ rfl, by rw [← add_field _ _ 3 (by omega)]; exact hc' 3 _ rfl, by rw [← add_field _ _ 4 (by omega)]; exact hc' 4 _ rfl, h4⟩
end
end Go.Proofs.Ytckcffjnffcjcaa
namespace Go.Proofs.Ytckcffjnffcjcaa
open Go.RowKit Go.Proofs.YtckcffjnffcjcaaW.PrintWords
structure FS (n : NetT) (s : SpotT) (w : World) (NB : List Value) (gB cb gK ck Q : Nat) (W : World) (best : BestT) (bl : List CarT) (kl : List Bool) (hl : List HdrT) : Prop where
  net : Bx W w.heap.size NB
  b : CR W (w.heap.size + 2) w.heap.size (fun k => k = gB) (.slice (some ⟨gB, 0, none⟩) Q cb) hl bl
  k : Kd.R Kd.bool 4 W (w.heap.size + 2) (fun k => k = gK) (.slice (some ⟨gK, 0, none⟩) Q ck) kl
  rel : FromRel n s best bl kl
  b0 : Below w.heap.size w W
section
variable {n : NetT} {s : SpotT} {w : World} {NB : List Value} {gB cb gK ck Q : Nat} {W W1 : World} {best : BestT} {bl : List CarT} {kl : List Bool} {hl : List HdrT}
theorem FS.below (h : FS n s w NB gB cb gK ck Q W best bl kl hl) (hb : Below W.heap.size W W1) : FS n s w NB gB cb gK ck Q W1 best bl kl hl :=
  ⟨h.net.below hb, h.b.below hb, Kd.R_below h.k hb, h.rel, below_more h.b0 hb⟩
theorem FS.ltB (h : FS n s w NB gB cb gK ck Q W best bl kl hl) : w.heap.size + 2 ≤ gB ∧ gB < W.heap.size := ⟨Kd.R_base h.b.outer gB rfl, Kd.R_lt h.b.outer gB rfl⟩
theorem FS.ltK (h : FS n s w NB gB cb gK ck Q W best bl kl hl) : w.heap.size + 2 ≤ gK ∧ gK < W.heap.size := ⟨Kd.R_base h.k gK rfl, Kd.R_lt h.k gK rfl⟩
theorem FS.tyB (h : FS n s w NB gB cb gK ck Q W best bl kl hl) : ∃ cells, W.heap[gB]? = some (.cells cells 172 (0, 0)) := Kd.R_typed h.b.outer gB rfl
theorem FS.tyK (h : FS n s w NB gB cb gK ck Q W best bl kl hl) : ∃ cells, W.heap[gK]? = some (.cells cells 4 (0, 0)) := Kd.R_typed h.k gK rfl
theorem FS.ne (h : FS n s w NB gB cb gK ck Q W best bl kl hl) : gB ≠ gK := by
  obtain ⟨c1, h1⟩ := h.tyB
  obtain ⟨c2, h2⟩ := h.tyK
  rintro rfl
  rw [h1] at h2
  injection h2 with h2
  injection h2 with _ h2 _
  exact absurd h2 (by decide)
end
def lineM (Q : Nat) (v : Value) (W : World) : Nat := match v with
  | .slice (some ad) (_ + 1) _ => Q + 3 - (match W.cell? ⟨ad.block, ad.off + 4, none⟩ with
    | some (.slice _ m _) => m
    | _ => 0)
  | _ => 0
theorem lineM_nil (Q : Nat) (A : Option Addr) (c : Nat) (W : World) : lineM Q (.slice A 0 c) W = 0 := by
  unfold lineM
  cases A <;> rfl
theorem lineM_cons {Q : Nat} {W : World} {base sb : Nat} {ok : Nat → Prop} {v : Value} {hl : List HdrT} {cl : List CarT} (h : CR W base sb ok v hl cl) (hp : 0 < cl.length) : lineM Q v W = Q + 3 - (cl.getD 0 default).steps.length := by
  obtain ⟨ad, c0, B, d, rfl, _, _, _, _, h4, _⟩ := h.at_ hp
  rw [Nat.zero_mul, show ad.add 0 = ad from rfl] at h4
  obtain ⟨m, hm⟩ : ∃ m, cl.length = m + 1 := ⟨cl.length - 1, by omega⟩
  rw [hm]
  unfold lineM
  simp only [h4]
theorem carOf_len (n : NetT) (s : SpotT) (l : List StepT) : (carOf n s l).steps.length = l.length + 1 := rfl
theorem line_down {n : NetT} {s : SpotT} {r Q : Nat} {best best' : BestT} {line line' : List (List StepT)} {W W1 : World} {base base' sb sb' : Nat} {ok ok' : Nat → Prop} {v v' : Value} {hl hl' : List HdrT}
    (h : CR W base sb ok v hl (line.map (carOf n s))) (h' : CR W1 base' sb' ok' v' hl' (line'.map (carOf n s))) (hi : InvR n (stepOf s) r best line) (hi' : InvR n (stepOf s) (r + 1) best' line') (hne : line ≠ []) (hr : r ≤ Q) : lineM Q v' W1 < lineM Q v W := by
  have hp : 0 < (line.map (carOf n s)).length := by rw [List.length_map]; exact List.length_pos_iff.2 hne
  have e1 : lineM Q v W = Q + 3 - (r + 1) := by
    rw [lineM_cons h hp]
    cases line with
    | nil => exact absurd rfl hne
    | cons c line =>
      have := (hi.line_ c (by simp)).2.1
      show Q + 3 - (carOf n s c).steps.length = _
      rw [carOf_len, this]
  rw [e1]
  cases line' with
  | nil =>
    obtain ⟨A, c, e⟩ := Kd.R_slice h'.outer
    have hz : hl'.length = 0 := by rw [h'.len]; rfl
    rw [hz] at e
    subst e
    rw [lineM_nil]
    omega
  | cons c line' =>
    rw [lineM_cons h' (by simp)]
    have := (hi'.line_ c (by simp)).2.1
    show Q + 3 - (carOf n s c).steps.length < _
    rw [carOf_len, this]
    omega
def lineSt (n : NetT) (s : SpotT) (best : BestT) (line : List (List StepT)) (a : Nat) : BestT × List (List StepT) := (line.take a).foldl (fun st c => relaxAll n (stepOf s) c st) (best, [])
def endSt (n : NetT) (c : List StepT) (st : BestT × List (List StepT)) (E : List EndT) (q : Nat) : BestT × List (List StepT) := ((E.take q).map comesS).foldl (fun st p => relax n st p (c ++ [p])) st
theorem lineSt_all (n : NetT) (s : SpotT) (best : BestT) (line : List (List StepT)) : lineSt n s best line line.length = roundS n (stepOf s) best line := by
  unfold lineSt roundS; rw [List.take_length]
theorem lineSt_next {n : NetT} {s : SpotT} {best : BestT} {line : List (List StepT)} {a : Nat} (ha : a < line.length) : lineSt n s best line (a + 1) = relaxAll n (stepOf s) (line.getD a default) (lineSt n s best line a) := by
  unfold lineSt
  rw [take_getD line a ha, List.foldl_append]
  rfl
theorem endSt_next {n : NetT} {c : List StepT} {st : BestT × List (List StepT)} {E : List EndT} {q : Nat} (hq : q < E.length) : endSt n c st E (q + 1) = relax n (endSt n c st E q) (comesS (E.getD q default)) (c ++ [comesS (E.getD q default)]) := by
  unfold endSt
  rw [take_getD E q hq, List.map_append, List.foldl_append]
  rfl
theorem endSt_all {n : NetT} {s : SpotT} {c : List StepT} {st : BestT × List (List StepT)} {E : List EndT} (hE : E = acrossE n (lookS (lastS (stepOf s) c))) : endSt n c st E E.length = relaxAll n (stepOf s) c st := by
  unfold endSt relaxAll succS
  rw [List.take_length, hE]
theorem endSt_len (n : NetT) (c : List StepT) (st : BestT × List (List StepT)) (E : List EndT) : ∀ q, q ≤ E.length → (endSt n c st E q).2.length ≤ st.2.length + q
  | 0, _ => Nat.le_refl _
  | q + 1, hq => by
    rw [endSt_next (by omega)]
    have h1 := relax_len n (endSt n c st E q) (comesS (E.getD q default)) (c ++ [comesS (E.getD q default)])
    have h2 := endSt_len n c st E q (by omega)
    omega
theorem endSt_best (n : NetT) (c : List StepT) (st : BestT × List (List StepT)) (E : List EndT) (t : StepT) (hc : ∀ p l, st.1 p = some l → lastS t l = p ∧ l ≠ []) : ∀ q, q ≤ E.length → ∀ p l, (endSt n c st E q).1 p = some l → lastS t l = p ∧ l ≠ []
  | 0, _ => hc
  | q + 1, hq => by
    intro p l h
    rw [endSt_next (by omega)] at h
    have ih := endSt_best n c st E t hc q (by omega)
    obtain ⟨b, hb⟩ : ∃ b, b = (match (endSt n c st E q).1 (comesS (E.getD q default)) with | none => true | some l => lessW n (c ++ [comesS (E.getD q default)]) l) := ⟨_, rfl⟩
    rw [relax_if n _ _ _ b hb] at h
    cases b with
    | false => exact ih p l h
    | true =>
      simp only [if_true] at h
      split at h
      · rename_i e
        injection h with h
        subst h
        exact ⟨by rw [lastS_snoc, e], by simp⟩
      · exact ih p l h
theorem lineSt_best (n : NetT) (s : SpotT) (best : BestT) (line : List (List StepT)) (hc : ∀ p l, best p = some l → lastS (stepOf s) l = p ∧ l ≠ []) : ∀ a, a ≤ line.length → ∀ p l, (lineSt n s best line a).1 p = some l → lastS (stepOf s) l = p ∧ l ≠ []
  | 0, _ => hc
  | a + 1, ha => by
    rw [lineSt_next (by omega), ← endSt_all rfl]
    exact endSt_best n _ _ _ _ (lineSt_best n s best line hc a (by omega)) _ (Nat.le_refl _)
end Go.Proofs.Ytckcffjnffcjcaa
namespace Go.Proofs.Ytckcffjnffcjcaa
open Go.RowKit Go.Proofs.YtckcffjnffcjcaaW.PrintWords
theorem at_Bool {w : World} {A : Option Addr} {n : Nat} {xs : List Bool} (h : Kd.C Kd.bool w A n xs) (i : Nat) (hi : i < n) : ∃ ad, A = some ad ∧ w.cell? (ad.add i) = some (.bool (xs.getD i false)) := by
  obtain ⟨ad, c, e, _, hK, hc0⟩ := Kd.C_get h false (i : Int) (by omega) (by omega)
  rw [Int.toNat_natCast] at hK hc0
  obtain rfl := hK
  refine ⟨ad, e, ?_⟩
  have hq := hc0 0 _ rfl
  simpa [Kd.bool, Kd.scalar] using hq
section
variable {W W1 : World} {base sb g n cap : Nat} {ok : Nat → Prop} {hl : List HdrT} {cl : List CarT}
theorem getD_set_all {α : Type} (l : List α) (i j : Nat) (x d : α) (hi : i < l.length) : (l.set i x).getD j d = if i = j then x else l.getD j d := getD_set l i j x d hi
theorem CR.setFar (h : CR W base sb ok (.slice (some ⟨g, 0, none⟩) n cap) hl cl) {i : Nat} (hi : i < n) (f : Int) :
    ∃ hl', CR (W.setCell ⟨g, i * 5 + 3, none⟩ (.int .i64 f)) base sb ok (.slice (some ⟨g, 0, none⟩) n cap) hl' (cl.set i ⟨(cl.getD i default).spot, f, (cl.getD i default).steps⟩) ∧ W.grownBy (W.setCell ⟨g, i * 5 + 3, none⟩ (.int .i64 f)) (some g) ∧ W.frozen? ⟨g, i * 5 + 3, none⟩ = false := by
  have hn : n = hl.length := (Kd.R_reads' h.outer).1
  have hic : i < cl.length := by rw [← h.len, ← hn]; exact hi
  obtain ⟨A, c, e1, _⟩ := h.each i hic
  obtain ⟨cs, hcl, hM, hcc, hfz⟩ := Kd.R_elem h.outer (hl.getD i default) (i : Int) (by omega) (by omega)
  have hrd : cs = hdrVals (hdrOf (cl.getD i default) A c) := by
    have := kHdr_open (kHdr.K_of_M hM)
    rw [this, ← e1]
    congr 1
    simp [List.getD, hn ▸ hi]
  have key := Kd.R_seg h.outer (i : Int) (by omega) (by omega) (j := 3) (seg := [.int .i64 f]) (x' := hdrOf ⟨(cl.getD i default).spot, f, (cl.getD i default).steps⟩ A c) (okp := fun _ => False) hcl hcc (by show 3 + 1 ≤ 5; omega) (by
    rw [hrd]
    exact kHdr_mkM _ _ _ (hdrOf ⟨(cl.getD i default).spot, f, (cl.getD i default).steps⟩ A c)) (fun k hk => hk.elim)
  rw [Int.toNat_natCast] at key
  have k1 : Kd.R kHdr 172 (W.setCell ⟨g, i * 5 + 3, none⟩ (.int .i64 f)) base ok (.slice (some ⟨g, 0, none⟩) n cap) (hl.set i (hdrOf ⟨(cl.getD i default).spot, f, (cl.getD i default).steps⟩ A c)) := key.1
  have k2 : W.grownBy (W.setCell ⟨g, i * 5 + 3, none⟩ (.int .i64 f)) (some g) := key.2
  refine ⟨_, ⟨k1, by rw [List.length_set, List.length_set]; exact h.len, fun q hq => ?_⟩, k2, hfz 3⟩
  rw [List.length_set] at hq
  obtain ⟨B, d, h1, h2⟩ := h.each q hq
  have h3 : Kd.R kStep 85 (W.setCell ⟨g, i * 5 + 3, none⟩ (.int .i64 f)) sb (fun _ => True) (.slice B (cl.getD q default).steps.length d) (cl.getD q default).steps := Kd.R_over h2 h.outer (by decide) k2
  rw [getD_set_all _ _ _ _ _ hic, getD_set_all _ _ _ _ _ (by rw [h.len]; exact hic)]
  by_cases e : i = q
  · subst e
    rw [if_pos rfl, if_pos rfl]
    rw [e1] at h1
    have hAB : A = B ∧ c = d := by
      unfold hdrOf at h1
      simp only [Prod.mk.injEq, true_and] at h1
      exact ⟨h1.1, h1.2⟩
    obtain ⟨rfl, rfl⟩ := hAB
    exact ⟨A, c, rfl, h3⟩
  · rw [if_neg e, if_neg e]
    exact ⟨B, d, h1, h3⟩
end
end Go.Proofs.Ytckcffjnffcjcaa
