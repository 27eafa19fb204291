/- Texts of this work, of each what the claim leans on: WWords, Base, Lib, Eqs, Szs, Tos, Opens, Parts. No conditions. -/
import Derived.ArgAppend
import Derived.Below
import Derived.BigQuiet
import Derived.Deep.AppendLies
import Derived.Deep.CutBlock
import Derived.Deep.DeepCutAuto
import Derived.Deep.Draws
import Derived.Deep.Fields
import Derived.Deep.LoopGhost
import Derived.Deep.OwnRows
import Derived.Deep.QuietTactic
import Derived.Deep.RegionHeld3
import Derived.KernelRfl
import Derived.Laws.BytesArg
import Derived.Laws.IdiomCopy
import Derived.Laws.MakeOwn
import Derived.Laws.OwnMore
import Derived.Laws.Rows
import Derived.Laws.Slices
import Derived.Lib.AppendStr
import Derived.Lib.ConvBytes
import Derived.Lib.SmallJoins
import Derived.LoopTactic
import Derived.MapKept
import Derived.Maps.AppendAt
import Derived.OwnWalk
import Derived.ProofKit
import Derived.RowKit
import Derived.RowKit3
import Derived.StillTailTactics
import Derived.Tactics
import Derived.Test.YtckcffjnffcjcaaDoorProg
import Derived.WalkKit
import Derived.WalkLawsBesides
import Derived.WalkSpells
import Derived.WideLaws
import Derived.WideShapes
set_option linter.unusedVariables false
set_option linter.unusedSimpArgs false
namespace Go.Proofs.YtckcffjnffcjcaaDoorW.PrintWords
open Go.RowKit
/-- A fact that the walk's simp doesn't look into. -/
structure Aside0 (p : Prop) : Prop where mk :: (out : p)
def rd (xs : List Int) (i : Int) : Int := xs.getD i.toNat 0
theorem below_alloc {w W : World} (h : Below w.heap.size w W) (o : Obj) : Below w.heap.size w (W.alloc o) := h.alloc h.size o
theorem below_drew {B : Nat} {w W : World} (h : Below B w W) : Below B w W.drew := ⟨h.os, h.tape, h.output, h.size, h.block⟩
theorem pw_below_drewN {B : Nat} {w W : World} (h : Below B w W) (n : Nat) : Below B w (W.drewN n) := ⟨h.os, h.tape, h.output, h.size, h.block⟩
theorem below_then {B : Nat} {w w1 w2 : World} (h : Below B w w1) (hB : B ≤ w1.heap.size) (k : Below w1.heap.size w1 w2) : Below B w w2 :=
  h.trans ⟨k.os, k.tape, k.output, k.size, fun i hi => k.block i (Nat.lt_of_lt_of_le hi hB)⟩
theorem pw_cell_below {w w1 : World} (h : Below w.heap.size w w1) {a : Addr} {v : Value} (hc : w.cell? a = some v) : w1.cell? a = some v := (h.cell (World.block_lt_of_cell? w a hc)).trans hc
theorem add_plain (g j : Nat) : (⟨g, 0, none⟩ : Addr).add j = ⟨g, j, none⟩ := by unfold Addr.add; split <;> simp_all
def ReadsInt (w : World) (k : IntKind) (A : Option Addr) (n : Nat) (xs : List Int) : Prop :=
  xs.length = n ∧ n ≤ 9223372036854775807 ∧ (0 < n → ∃ ad, A = some ad ∧ ∀ j, j < n → w.cell? (ad.add j) = some (.int k (xs.getD j 0)))
theorem ReadsInt.at_ {w : World} {k : IntKind} {A : Option Addr} {n : Nat} {xs : List Int} (h : ReadsInt w k A n xs) (i : Int) (h0 : 0 ≤ i) (h1 : i < n) : ∃ ad, A = some ad ∧ w.cell? (ad.add i.toNat) = some (.int k (rd xs i)) := by
  obtain ⟨ad, e, hc⟩ := h.2.2 (by omega)
  exact ⟨ad, e, hc _ (by omega)⟩
theorem own_nil (W : World) (base : Nat) (e : TypeId) (size : Nat) : W.ownsRow base e size (.slice none 0 0) 0 [] := ⟨by simp, .inl ⟨rfl, rfl⟩⟩
theorem own_base {w : World} {base : Nat} {e : TypeId} {size n : Nat} {v : Value} {xs : List Value} (h : w.ownsRow base e size v n xs) (k : Nat) (hk : v.ownBlock = some k) : base ≤ k := by
  rcases h.2 with ⟨rfl, _⟩ | ⟨g, cap, cur, rfl, hb, _⟩
  · simp [Value.ownBlock] at hk
  · have : g = k := by simpa [Value.ownBlock] using hk
    omega
theorem own_lt {w : World} {base : Nat} {e : TypeId} {size n : Nat} {v : Value} {xs : List Value} (h : w.ownsRow base e size v n xs) (k : Nat) (hk : v.ownBlock = some k) : k < w.heap.size := by
  rcases h.2 with ⟨rfl, _⟩ | ⟨g, cap, cur, rfl, hb, hh, _⟩
  · simp [Value.ownBlock] at hk
  · have : g = k := by simpa [Value.ownBlock] using hk
    subst this
    exact (Array.getElem?_eq_some_iff.1 hh).1
/-- Where the first answers, the second answers the same. -/
def LeO {α : Type} (a b : Option α) : Prop := ∀ r, a = some r → b = some r
theorem LeO.refl {α : Type} (a : Option α) : LeO a a := fun _ h => h
theorem LeO.trans {α : Type} {a b c : Option α} (h : LeO a b) (k : LeO b c) : LeO a c := fun r hr => k r (h r hr)
theorem more_rounds {α : Type} {g : Nat → Option α} (h : ∀ k, LeO (g k) (g (k + 1))) (k : Nat) : ∀ j, LeO (g k) (g (k + j))
  | 0 => LeO.refl _
  | j + 1 => (more_rounds h k j).trans (h (k + j))
theorem at_rounds {α : Type} {g : Nat → Option α} (h : ∀ k, LeO (g k) (g (k + 1))) {k k' : Nat} (hk : k ≤ k') {r : α} (hr : g k = some r) : g k' = some r := by
  have := more_rounds h k (k' - k) r hr
  rwa [Nat.add_sub_cancel' hk] at this
def Reps {α : Type} (R : α → List Value → Prop) (size : Nat) (ps : List α) (cs : List Value) : Prop :=
  cs.length = ps.length * size ∧ ∀ j p, ps[j]? = some p → R p ((cs.drop (j * size)).take size)
theorem Reps.none {α : Type} (R : α → List Value → Prop) (size : Nat) : Reps R size [] [] := ⟨by simp, fun j p h => by simp at h⟩
theorem Reps.imp_ {α : Type} {R R' : α → List Value → Prop} {size : Nat} {ps : List α} {cs : List Value} (h : Reps R size ps cs) (hR : ∀ p c, R p c → R' p c) : Reps R' size ps cs := ⟨h.1, fun j p hj => hR _ _ (h.2 j p hj)⟩
def ReadsRow {α : Type} (R : α → List Value → Prop) (size : Nat) (w : World) (A : Option Addr) (n : Nat) (ps : List α) : Prop :=
  ps.length = n ∧ n ≤ 9223372036854775807 ∧ (0 < n → ∃ ad, A = some ad ∧ ∀ j p, ps[j]? = some p → ∃ c, c.length = size ∧ R p c ∧ ∀ i u, c[i]? = some u → w.cell? (ad.add (j * size + i)) = some u)
theorem ReadsRow.get_ {α : Type} {R : α → List Value → Prop} {size : Nat} {w : World} {A : Option Addr} {n : Nat} {ps : List α} (h : ReadsRow R size w A n ps) (d : α) (i : Int) (h0 : 0 ≤ i) (h1 : i < n) :
    ∃ ad c, A = some ad ∧ c.length = size ∧ R (ps.getD i.toNat d) c ∧ ∀ j u, c[j]? = some u → w.cell? (ad.add (i.toNat * size + j)) = some u := by
  obtain ⟨ad, e, hc⟩ := h.2.2 (by omega)
  have hl : i.toNat < ps.length := by have := h.1; omega
  obtain ⟨c, hs, hr, hcell⟩ := hc i.toNat _ (List.getElem?_eq_getElem hl)
  refine ⟨ad, c, e, hs, ?_, hcell⟩
  rw [List.getD_eq_getElem?_getD, List.getElem?_eq_getElem hl]
  exact hr
theorem ReadsRow.imp_ {α : Type} {R R' : α → List Value → Prop} {size : Nat} {w w1 : World} {A : Option Addr} {n : Nat} {ps : List α} (h : ReadsRow R size w A n ps) (hb : Below w.heap.size w w1) (hR : ∀ p c, R p c → R' p c) : ReadsRow R' size w1 A n ps :=
  ⟨h.1, h.2.1, fun hn => by
    obtain ⟨ad, e, hc⟩ := h.2.2 hn
    refine ⟨ad, e, fun j p hj => ?_⟩
    obtain ⟨c, hs, hr, hcell⟩ := hc j p hj
    exact ⟨c, hs, hR _ _ hr, fun i u hu => pw_cell_below hb (hcell i u hu)⟩⟩
theorem own_reads_row {α : Type} {R : α → List Value → Prop} {w : World} {base n size : Nat} {e : TypeId} {v : Value} {ps : List α} {cs : List Value} (h : w.ownsRow base e size v n cs) (hR : Reps R size ps cs) (hn : ps.length = n) :
    ∃ A c, v = .slice A n c ∧ ReadsRow R size w A n ps := by
  rcases Nat.eq_zero_or_pos n with h0 | h0
  · rcases h.2 with ⟨rfl, rfl⟩ | ⟨g, cap, cur, rfl, _⟩
    · exact ⟨none, 0, rfl, hn, by omega, fun hp => absurd hp (by omega)⟩
    · exact ⟨_, cap, rfl, hn, by omega, fun hp => absurd hp (by omega)⟩
  · obtain ⟨g, cap, rfl, _, _⟩ := h.form h0
    have hm : n ≤ 9223372036854775807 := by
      rcases h.2 with ⟨_, h1⟩ | ⟨g', cap', cur, he, _, _, h1, h2, _⟩
      · omega
      · simp only [maxLen] at h2
        omega
    refine ⟨_, cap, rfl, hn, hm, fun _ => ⟨_, rfl, fun j p hj => ⟨(cs.drop (j * size)).take size, ?_, hR.2 j p hj, fun i u hu => ?_⟩⟩⟩
    · have hjl := (List.getElem?_eq_some_iff.1 hj).1
      have h1 : j * size + size ≤ cs.length := by rw [hR.1, ← Nat.succ_mul]; exact Nat.mul_le_mul_right _ hjl
      rw [List.length_take, List.length_drop]
      omega
    · refine h.cells (g := g) rfl _ u ?_
      rw [List.getElem?_take] at hu
      split at hu
      · rw [List.getElem?_drop] at hu
        exact hu
      · cases hu
/-- A field's address as_ the walk spells it. -/
theorem add_field (ad : Addr) (m j : Nat) (hj : 0 < j) : ad.add (m + j) = ⟨(ad.add m).block, (ad.add m).off + j, none⟩ := by
  unfold Addr.add
  by_cases hm : m = 0
  · subst hm
    simp [Nat.ne_of_gt hj]
  · simp [hm, Nat.add_assoc]
theorem blk_set {w : World} {g : Nat} {t : TypeId} {cs : Array Value} (h : w.heap[g]? = some (.cells cs t (0, 0))) (i : Nat) (u : Value) : (w.setCell ⟨g, i, none⟩ u).heap[g]? = some (.cells (cs.setIfInBounds i u) t (0, 0)) := by
  simp [World.setCell, Array.getElem?_modify, h]
theorem blk_frozen {w : World} {g : Nat} {t : TypeId} {cs : Array Value} (h : w.heap[g]? = some (.cells cs t (0, 0))) (i : Nat) : w.frozen? ⟨g, i, none⟩ = false := by simp [World.frozen?, h]
def Ev {α : Type} (g : Nat → Option α) (r : α) : Prop := ∃ K, ∀ k, K ≤ k → g k = some r
theorem Ev.of {α : Type} {g : Nat → Option α} {r : α} (hg : ∀ k, LeO (g k) (g (k + 1))) {k : Nat} (h : g k = some r) : Ev g r := ⟨k, fun _ hk => at_rounds hg hk h⟩
theorem own_weaken {w : World} {base base' : Nat} {e : TypeId} {size n : Nat} {v : Value} {xs : List Value} (h : w.ownsRow base e size v n xs) (hb : base' ≤ base) : w.ownsRow base' e size v n xs := by
  obtain ⟨h1, h2⟩ := h
  refine ⟨h1, ?_⟩
  rcases h2 with h2 | ⟨g, cap, cur, rfl, hg, r⟩
  · exact .inl h2
  · exact .inr ⟨g, cap, cur, rfl, Nat.le_trans hb hg, r⟩
theorem own_le {w : World} {base n m c size : Nat} {e : TypeId} {A : Option Addr} {xs : List Value} (h : w.ownsRow base e size (.slice A m c) n xs) : m ≤ c := by
  rcases h.2 with ⟨he, _⟩ | ⟨g, cap, cur, he, _, _, hnc, _⟩
  · injection he with _ h2 h3
    omega
  · injection he with _ h2 h3
    omega
def OwnRow {α : Type} (R : α → List Value → Prop) (e : TypeId) (size : Nat) (w : World) (base : Nat) (v : Value) (ps : List α) : Prop :=
  ∃ inner, w.ownsRow base e size v ps.length inner ∧ Reps R size ps inner
section
variable {α : Type} {R R' : α → List Value → Prop} {e : TypeId} {size : Nat} {w w1 : World} {base : Nat} {v : Value} {ps : List α}
theorem OwnRow.none_ (R : α → List Value → Prop) (e : TypeId) (size : Nat) (w : World) (base : Nat) : OwnRow R e size w base (.slice none 0 0) [] := ⟨[], own_nil _ _ _ _, Reps.none _ _⟩
theorem OwnRow.imp_ (h : OwnRow R e size w base v ps) (hR : ∀ p c, R p c → R' p c) : OwnRow R' e size w base v ps := by
  obtain ⟨inner, ho, hr⟩ := h
  exact ⟨inner, ho, hr.imp_ hR⟩
theorem OwnRow.reads (h : OwnRow R e size w base v ps) : ∃ A c, v = .slice A ps.length c ∧ ps.length ≤ c ∧ ReadsRow R size w A ps.length ps := by
  obtain ⟨inner, ho, hr⟩ := h
  obtain ⟨A, c, rfl, hrow⟩ := own_reads_row ho hr rfl
  exact ⟨A, c, rfl, own_le ho, hrow⟩
end
/-- ok: which blocks the rows inside may be ('not the row that is being written'). -/
structure Kd (α : Type) where
  sz : Nat
  E : List Nat
  K : World → α → List Value → Prop
  M : World → Nat → (Nat → Prop) → α → List Value → Prop
  K_len : ∀ {w x cs}, K w x cs → cs.length = sz
  K_one : ∀ {w x cs}, K w x cs → ∀ u ∈ cs, u.oneCell' = true
  K_below : ∀ {w w1 : World} {x cs}, Below w.heap.size w w1 → K w x cs → K w1 x cs
  K_of_M : ∀ {w base ok x cs}, M w base ok x cs → K w x cs
  M_mono : ∀ {w base ok ok' x cs}, (∀ k, ok k → ok' k) → M w base ok x cs → M w base ok' x cs
  M_bound : ∀ {w : World} {base ok x cs}, M w base ok x cs → M w base (fun k => ok k ∧ base ≤ k ∧ k < w.heap.size ∧ ∃ q, q ∈ E ∧ ∃ cells, w.heap[k]? = some (.cells cells q (0, 0))) x cs
  M_move : ∀ {w w1 : World} {base ok x cs}, (∀ k, ok k → w1.heap[k]? = w.heap[k]?) → M w base ok x cs → M w1 base ok x cs
  M_lower : ∀ {w base base' ok x cs}, base' ≤ base → M w base ok x cs → M w base' ok x cs
theorem own_move {w w1 : World} {base : Nat} {e : TypeId} {size n : Nat} {v : Value} {xs : List Value} (h : w.ownsRow base e size v n xs) (hm : ∀ k, v.ownBlock = some k → w1.heap[k]? = w.heap[k]?) : w1.ownsRow base e size v n xs := by
  obtain ⟨h1, h2⟩ := h
  refine ⟨h1, ?_⟩
  rcases h2 with h2 | ⟨g, cap, cur, rfl, hg, hh, r⟩
  · exact .inl h2
  · exact .inr ⟨g, cap, cur, rfl, hg, (hm g (by simp [Value.ownBlock])).trans hh, r⟩
theorem own_typed {w : World} {base : Nat} {e : TypeId} {size n : Nat} {v : Value} {xs : List Value} (h : w.ownsRow base e size v n xs) (k : Nat) (hk : v.ownBlock = some k) : ∃ cells, w.heap[k]? = some (.cells cells e (0, 0)) := by
  rcases h.2 with ⟨rfl, _⟩ | ⟨g, cap, cur, rfl, hg, hh, r⟩
  · simp [Value.ownBlock] at hk
  · have : g = k := by simpa [Value.ownBlock] using hk
    subst this
    exact ⟨cur, hh⟩
namespace Kd
/-- A row of elements that is read. -/
def C {α : Type} (d : Kd α) (w : World) (A : Option Addr) (n : Nat) (xs : List α) : Prop := ReadsRow (d.K w) d.sz w A n xs
/-- A row of elements (type e) of the call's own; the elements' rows are not this one. -/
def R {α : Type} (d : Kd α) (e : Nat) (w : World) (base : Nat) (ok : Nat → Prop) (v : Value) (xs : List α) : Prop :=
  (∀ k, v.ownBlock = some k → ok k) ∧ OwnRow (d.M w base (fun k => ok k ∧ some k ≠ v.ownBlock)) e d.sz w base v xs
section
variable {α : Type} {d : Kd α} {e : Nat} {w w1 : World} {base : Nat} {ok ok' : Nat → Prop} {v : Value} {xs : List α}
theorem C_below {A : Option Addr} {n : Nat} (h : d.C w A n xs) (hb : Below w.heap.size w w1) : d.C w1 A n xs := ReadsRow.imp_ h hb (fun _ _ hp => d.K_below hb hp)
theorem R_nil (d : Kd α) (e : Nat) (w : World) (base : Nat) (ok : Nat → Prop) : d.R e w base ok (.slice none 0 0) [] := ⟨fun k hk => by simp [Value.ownBlock] at hk, OwnRow.none_ _ _ _ _ _⟩
theorem R_mono (h : d.R e w base ok v xs) (hok : ∀ k, ok k → ok' k) : d.R e w base ok' v xs := ⟨fun k hk => hok k (h.1 k hk), h.2.imp_ (fun _ _ hp => d.M_mono (fun k hk => ⟨hok k hk.1, hk.2⟩) hp)⟩
theorem R_bound (h : d.R e w base ok v xs) : d.R e w base (fun k => ok k ∧ base ≤ k ∧ k < w.heap.size ∧ ∃ q, q ∈ e :: d.E ∧ ∃ cells, w.heap[k]? = some (.cells cells q (0, 0))) v xs := by
  obtain ⟨h0, inner, ho, hr⟩ := h
  refine ⟨fun k hk => ?_, inner, ho, hr.imp_ (fun _ _ hp => d.M_mono (fun k hk => ?_) (d.M_bound hp))⟩
  · obtain ⟨cells, hc⟩ := own_typed ho k hk
    exact ⟨h0 k hk, own_base ho k hk, own_lt ho k hk, e, List.mem_cons_self, cells, hc⟩
  · obtain ⟨⟨h1, h2⟩, h3, h4, q, hq, hc⟩ := hk
    exact ⟨⟨h1, h3, h4, q, List.mem_cons_of_mem _ hq, hc⟩, h2⟩
theorem R_move (h : d.R e w base ok v xs) (hm : ∀ k, ok k → w1.heap[k]? = w.heap[k]?) : d.R e w1 base ok v xs := by
  obtain ⟨h0, inner, ho, hr⟩ := h
  exact ⟨h0, inner, own_move ho (fun k hk => hm k (h0 k hk)), hr.imp_ (fun _ _ hp => d.M_move (fun k hk => hm k hk.1) hp)⟩
theorem R_lower {base' : Nat} (h : d.R e w base ok v xs) (hb : base' ≤ base) : d.R e w base' ok v xs := by
  obtain ⟨h0, inner, ho, hr⟩ := h
  exact ⟨h0, inner, own_weaken ho hb, hr.imp_ (fun _ _ hp => d.M_lower hb hp)⟩
/-- Any mover: what is ok, and a block of w's, stays. -/
theorem R_step (h : d.R e w base ok v xs) (hm : ∀ k, ok k → k < w.heap.size → w1.heap[k]? = w.heap[k]?) : d.R e w1 base ok v xs :=
  R_mono (R_move (R_bound h) (fun k hk => hm k hk.1 hk.2.2.1)) (fun _ hk => hk.1)
theorem M_step {x : α} {cs : List Value} (h : d.M w base ok x cs) (hm : ∀ k, ok k → k < w.heap.size → w1.heap[k]? = w.heap[k]?) : d.M w1 base ok x cs :=
  d.M_mono (fun _ hk => hk.1) (d.M_move (fun k hk => hm k hk.1 hk.2.2.1) (d.M_bound h))
theorem R_below (h : d.R e w base ok v xs) (hb : Below w.heap.size w w1) : d.R e w1 base ok v xs := R_step h (fun k _ hk => hb.block k hk)
theorem M_below {x : α} {cs : List Value} (h : d.M w base ok x cs) (hb : Below w.heap.size w w1) : d.M w1 base ok x cs := M_step h (fun k _ hk => hb.block k hk)
/-- A store into another block. -/
theorem R_far (h : d.R e w base ok v xs) {p : Addr} (hok : ∀ k, ok k → k ≠ p.block) (u : Value) : d.R e (w.setCell p u) base ok v xs := R_step h (fun k ho _ => Below.heap_setCell w p u k (hok k ho))
theorem R_reads (h : d.R e w base ok v xs) : ∃ A c, v = .slice A xs.length c ∧ xs.length ≤ c ∧ d.C w A xs.length xs := by
  obtain ⟨A, c, he, hl, hr⟩ := OwnRow.reads h.2
  exact ⟨A, c, he, hl, hr.imp_ (Below.refl _ _) (fun _ _ hp => d.K_of_M hp)⟩
theorem R_slice (h : d.R e w base ok v xs) : ∃ A c, v = .slice A xs.length c := by
  obtain ⟨A, c, he, _⟩ := R_reads h
  exact ⟨A, c, he⟩
theorem R_own (h : d.R e w base ok v xs) : ∃ inner, w.ownsRow base e d.sz v xs.length inner := by
  obtain ⟨_, inner, ho, _⟩ := h
  exact ⟨inner, ho⟩
end
def scalar {α : Type} (enc : α → Value) (h1 : ∀ x, (enc x).oneCell' = true) : Kd α where
  sz := 1
  E := []
  K := fun _ x cs => cs = [enc x]
  M := fun _ _ _ x cs => cs = [enc x]
  K_len := fun h => by rw [h]; rfl
  K_one := fun h u hu => by
    rw [h] at hu
    rw [List.mem_singleton.1 hu]
    exact h1 _
  K_below := fun _ h => h
  K_of_M := fun h => h
  M_mono := fun _ h => h
  M_bound := fun h => h
  M_move := fun _ h => h
  M_lower := fun _ h => h
def int (k : IntKind) : Kd Int := scalar (Value.int k) (fun _ => rfl)
def string : Kd ByteArray := scalar Value.string (fun _ => rfl)
def slice {α : Type} (e : Nat) (d : Kd α) : Kd (List α) where
  sz := 1
  E := e :: d.E
  K := fun w xs cs => ∃ A c, cs = [.slice A xs.length c] ∧ xs.length ≤ c ∧ d.C w A xs.length xs
  M := fun w base ok xs cs => ∃ v, cs = [v] ∧ d.R e w base ok v xs
  K_len := by
    rintro w x cs ⟨A, c, rfl, _⟩
    rfl
  K_one := by
    rintro w x cs ⟨A, c, rfl, _⟩ u hu
    rw [List.mem_singleton.1 hu]
    rfl
  K_below := by
    rintro w w1 x cs hb ⟨A, c, rfl, hl, hr⟩
    exact ⟨A, c, rfl, hl, C_below hr hb⟩
  K_of_M := by
    rintro w base ok x cs ⟨v, rfl, h⟩
    obtain ⟨A, c, rfl, hl, hr⟩ := R_reads h
    exact ⟨A, c, rfl, hl, hr⟩
  M_mono := by
    rintro w base ok ok' x cs hok ⟨v, rfl, h⟩
    exact ⟨v, rfl, R_mono h hok⟩
  M_bound := by
    rintro w base ok x cs ⟨v, rfl, h⟩
    exact ⟨v, rfl, R_bound h⟩
  M_move := by
    rintro w w1 base ok x cs hm ⟨v, rfl, h⟩
    exact ⟨v, rfl, R_move h hm⟩
  M_lower := by
    rintro w base base' ok x cs hb ⟨v, rfl, h⟩
    exact ⟨v, rfl, R_lower h hb⟩
/-- Two in line. -/
def pair {α β : Type} (a : Kd α) (b : Kd β) : Kd (α × β) where
  sz := a.sz + b.sz
  E := a.E ++ b.E
  K := fun w x cs => ∃ c0 c1, cs = c0 ++ c1 ∧ a.K w x.1 c0 ∧ b.K w x.2 c1
  M := fun w base ok x cs => ∃ c0 c1, cs = c0 ++ c1 ∧ a.M w base ok x.1 c0 ∧ b.M w base ok x.2 c1
  K_len := by
    rintro w x cs ⟨c0, c1, rfl, h0, h1⟩
    rw [List.length_append, a.K_len h0, b.K_len h1]
  K_one := by
    rintro w x cs ⟨c0, c1, rfl, h0, h1⟩ u hu
    rcases List.mem_append.1 hu with hu | hu
    · exact a.K_one h0 u hu
    · exact b.K_one h1 u hu
  K_below := by
    rintro w w1 x cs hb ⟨c0, c1, rfl, h0, h1⟩
    exact ⟨c0, c1, rfl, a.K_below hb h0, b.K_below hb h1⟩
  K_of_M := by
    rintro w base ok x cs ⟨c0, c1, rfl, h0, h1⟩
    exact ⟨c0, c1, rfl, a.K_of_M h0, b.K_of_M h1⟩
  M_mono := by
    rintro w base ok ok' x cs hok ⟨c0, c1, rfl, h0, h1⟩
    exact ⟨c0, c1, rfl, a.M_mono hok h0, b.M_mono hok h1⟩
  M_bound := by
    rintro w base ok x cs ⟨c0, c1, rfl, h0, h1⟩
    refine ⟨c0, c1, rfl, a.M_mono ?_ (a.M_bound h0), b.M_mono ?_ (b.M_bound h1)⟩
    · rintro k ⟨h2, h3, h4, q, hq, hc⟩
      exact ⟨h2, h3, h4, q, List.mem_append_left _ hq, hc⟩
    · rintro k ⟨h2, h3, h4, q, hq, hc⟩
      exact ⟨h2, h3, h4, q, List.mem_append_right _ hq, hc⟩
  M_move := by
    rintro w w1 base ok x cs hm ⟨c0, c1, rfl, h0, h1⟩
    exact ⟨c0, c1, rfl, a.M_move hm h0, b.M_move hm h1⟩
  M_lower := by
    rintro w base base' ok x cs hb ⟨c0, c1, rfl, h0, h1⟩
    exact ⟨c0, c1, rfl, a.M_lower hb h0, b.M_lower hb h1⟩
/-- A Lean structure by its fields. -/
def iso {α β : Type} (d : Kd α) (f : β → α) : Kd β where
  sz := d.sz
  E := d.E
  K := fun w x cs => d.K w (f x) cs
  M := fun w base ok x cs => d.M w base ok (f x) cs
  K_len := d.K_len
  K_one := d.K_one
  K_below := d.K_below
  K_of_M := d.K_of_M
  M_mono := d.M_mono
  M_bound := d.M_bound
  M_move := d.M_move
  M_lower := d.M_lower
theorem C_get {α : Type} {d : Kd α} {w : World} {A : Option Addr} {n : Nat} {xs : List α} (h : d.C w A n xs) (z : α) (i : Int) (h0 : 0 ≤ i) (h1 : i < n) :
    ∃ ad c, A = some ad ∧ c.length = d.sz ∧ d.K w (xs.getD i.toNat z) c ∧ ∀ j u, c[j]? = some u → w.cell? (ad.add (i.toNat * d.sz + j)) = some u := ReadsRow.get_ h z i h0 h1
end Kd
namespace Kd
end Kd
namespace Kd
end Kd
namespace Kd
section
variable {α β : Type} {d : Kd α} {d' : Kd β} {e e' : Nat} {w w1 W : World} {base b b' : Nat} {ok ok' okv oku : Nat → Prop} {v u : Value} {xs : List α} {ys : List β}
theorem R_reads' {A : Option Addr} {n c : Nat} (h : d.R e w base ok (.slice A n c) xs) : n = xs.length ∧ n ≤ c ∧ d.C w A xs.length xs := by
  obtain ⟨A', c', he, hl, hr⟩ := R_reads h
  injection he with h1 h2 h3
  subst h1
  exact ⟨h2, by omega, hr⟩
theorem R_base (h : d.R e w base ok v xs) : ∀ k, v.ownBlock = some k → base ≤ k := by
  obtain ⟨inner, ho⟩ := R_own h
  exact own_base ho
theorem R_form (h : d.R e w base ok v xs) (hp : 0 < xs.length) : ∃ g cap, v = .slice (some ⟨g, 0, none⟩) xs.length cap ∧ base ≤ g ∧ g < w.heap.size ∧ ∃ cells, w.heap[g]? = some (.cells cells e (0, 0)) := by
  obtain ⟨inner, ho⟩ := R_own h
  obtain ⟨g, cap, he, hb, hl⟩ := ho.form hp
  obtain ⟨cells, hc⟩ := own_typed ho g (by rw [he]; simp [Value.ownBlock])
  exact ⟨g, cap, he, hb, hl, cells, hc⟩
end
section
variable {P : Program} {ops : Array Oper} {rest : List Oper} {o : Oper} {a : Act} {Q : Exit → Act → World → Prop}
theorem event_run {W w1 : World} {v : Value} (hgd : o.guard = none) (hrun : (execOp a.eval o).run P W = .ok (.value v) w1) (h : wpList P ops Q rest (a.put o.dst v) w1) : wpList P ops Q (o :: rest) a W := by
  refine wpList_plain hgd fun K hK => ?_
  unfold Oper.wp
  rw [hrun]
  exact hK _ _ h
variable {α : Type}
/-- A literal '[]T{..}': inner its cells. 'hd' picks the operation; 'hrun' by '(by go_simp; rfl)'. -/
theorem R_lit (d : Kd α) {w0 W : World} (base e : Nat) (hgd : o.guard = none) {N : Tmp} (_hd : o.dst = some N) {xs : List α} {inner : List Value} {ok okp : Nat → Prop}
    (hrun : (execOp a.eval o).run P W = .ok (.value (.slice (some ⟨W.heap.size, 0, none⟩) xs.length xs.length)) (W.alloc (.cells inner.toArray e)))
    (hrep : Reps (d.M W base okp) d.sz xs inner) (hok : ∀ k, okp k → ok k) (hfresh : ok W.heap.size) (HB : Below base w0 W) (hbase : base ≤ W.heap.size) (hm : xs.length ≤ 9223372036854775807)
    (h : ∀ v1 w1, d.R e w1 base ok v1 xs → Below base w0 w1 → W.grownBy w1 none → (∃ b, v1.ownBlock = some b ∧ W.heap.size ≤ b) → wpList P ops Q rest (a.put o.dst v1) w1) : wpList P ops Q (o :: rest) a W := by
  refine event_run hgd hrun (h _ _ ⟨fun k hk => ?_, inner, ?_, ?_⟩ (HB.alloc hbase _) (World.grownBy_alloc W _ none) ⟨W.heap.size, by simp [Value.ownBlock], Nat.le_refl _⟩)
  · have : W.heap.size = k := by simpa [Value.ownBlock] using hk
    subst this
    exact hfresh
  · have h2 := World.ownsRow_lit (base := base) (e := e) (size := d.sz) W inner.toArray xs.length hbase (by simpa [maxLen] using hm) (by simpa using hrep.1)
    simpa using h2
  · refine hrep.imp_ (fun p c hp => d.M_mono (fun k hk => ⟨hok k hk.1, fun he => ?_⟩) (M_below (d.M_bound hp) (below_alloc (Below.refl _ _) _)))
    have h3 : k = W.heap.size := by simpa [Value.ownBlock] using he
    have := hk.2.2.1
    omega
theorem reps_made {α : Type} {R : α → List Value → Prop} {z : Value} {size : Nat} {z0 : α} (hz : z.cells.size = size) (hs : 0 < size) (h0 : R z0 z.cells.toList) (m : Nat) : Reps R size (List.replicate m z0) (madeCells z.cells (m * size)).toList := by
  refine ⟨by simp [size_madeCells], fun j p hj => ?_⟩
  obtain ⟨hjl, hp⟩ := List.getElem?_eq_some_iff.1 hj
  have hjm : j < m := by simpa using hjl
  have hp' : z0 = p := by simpa using hp
  subst hp'
  have hle : j * size + size ≤ m * size := by rw [← Nat.succ_mul]; exact Nat.mul_le_mul_right _ hjm
  have : ((madeCells z.cells (m * size)).toList.drop (j * size)).take size = z.cells.toList := by
    apply List.ext_getElem
    · simp [size_madeCells, hz]
      omega
    · intro i h1 h2
      have hi : i < size := by rw [Array.length_toList, hz] at h2; exact h2
      have hmod : (j * size + i) % size = i := by
        rw [Nat.mul_comm, Nat.mul_add_mod]
        exact Nat.mod_eq_of_lt hi
      simp [madeCells, hz, hmod]
      rw [getElem!_pos z.cells i (by omega)]
  rw [this]
  exact h0
/-- make([]T, n): every element is z0, whose cells are the type's zero's. -/
theorem R_make (d : Kd α) {w0 W : World} (base e : Nat) (hgd : o.guard = none) {N : Tmp} (hd : o.dst = some N) (t : TypeId) (x y : Operand) (ho : o.op = .makeSlice t x y) (n : Int) (hx : a.eval x = .int .i64 n) (hy : a.eval y = .int .i64 n)
    (ht : P.underlying t = some (.slice e)) (z : Value) (bytes : Nat) (hinfo : (P.info? e).map (fun i => (i.zero, i.size, i.bytes)) = some (some z, d.sz, bytes)) (hz : z.cells.size = d.sz) (hs0 : 0 < d.sz) (hb0 : 0 < bytes)
    (z0 : α) {ok okp : Nat → Prop} (hzero : d.M W base okp z0 z.cells.toList) (hok : ∀ k, okp k → ok k) (hfresh : ok W.heap.size) (h0 : 0 ≤ n) (hl : n.toNat * bytes ≤ 281474976710656) (HB : Below base w0 W) (hbase : base ≤ W.heap.size)
    (h : ∀ v1 w1, d.R e w1 base ok v1 (List.replicate n.toNat z0) → Below base w0 w1 → W.grownBy w1 none → (∃ b, v1.ownBlock = some b ∧ W.heap.size ≤ b) → wpList P ops Q rest (a.put o.dst v1) w1) : wpList P ops Q (o :: rest) a W := by
  obtain ⟨m, rfl⟩ := Int.eq_ofNat_of_zero_le h0
  simp only [Int.toNat_natCast] at hl h
  obtain ⟨i0, hi, hzz⟩ := Option.map_eq_some_iff.1 hinfo
  simp only [Prod.mk.injEq] at hzz
  obtain ⟨hz0, hz1, hz2⟩ := hzz
  have hm : m ≤ 281474976710656 := Nat.le_trans (Nat.le_mul_of_pos_right _ hb0) hl
  have hr := run_make (P := P) W t e i0 z ht hi hz0 .i64 .i64 (m : Int) (m : Int) (by omega) (by omega)
    (by
      have h3 : ((i0.bytes * m : Nat) : Int) ≤ 281474976710656 := by rw [hz2, Nat.mul_comm]; omega
      rwa [Int.natCast_mul] at h3) (by omega)
  simp only [Int.toNat_natCast] at hr
  rw [hz1] at hr
  refine R_lit d base e hgd hd (xs := List.replicate m z0) (inner := (madeCells z.cells (m * d.sz)).toList) (okp := okp) (ok := ok) ?_ (reps_made hz hs0 hzero m) hok hfresh HB hbase (by simp; omega) h
  simp [execOp, ho, hx, hy, hr]
end
end Kd
section
variable {w w1 : World} {base n size : Nat} {e : TypeId} {v : Value} {xs : List Value}
/-- What a run of cells written leaves. -/
theorem setCells_far {g : Nat} : ∀ (vs : List Value) (o : Nat) {w : World} (k : Nat), k ≠ g → (w.setCells g o vs).heap[k]? = w.heap[k]?
  | [], _, _, _, _ => rfl
  | v :: r, o, w, k, hk => by
    rw [World.setCells, setCells_far r (o + 1) k hk]
    exact Below.heap_setCell w ⟨g, o, none⟩ v k hk
theorem setCells_same (g : Nat) : ∀ (vs : List Value) (o : Nat) (w : World), (w.setCells g o vs).os = w.os ∧ (w.setCells g o vs).tape = w.tape ∧ (w.setCells g o vs).output = w.output ∧ (w.setCells g o vs).heap.size = w.heap.size
  | [], _, _ => ⟨rfl, rfl, rfl, rfl⟩
  | v :: r, o, w => by
    obtain ⟨h1, h2, h3, h4⟩ := setCells_same g r (o + 1) (w.setCell ⟨g, o, none⟩ v)
    rw [World.setCells]
    exact ⟨h1, h2, h3, by rw [h4]; simp [World.setCell]⟩
theorem setCells_row {g : Nat} {e : TypeId} : ∀ (vs : List Value) (o : Nat) (w : World) (cur : Array Value), w.heap[g]? = some (.cells cur e (0, 0)) → o + vs.length ≤ cur.size →
    ∃ cur', (w.setCells g o vs).heap[g]? = some (.cells cur' e (0, 0)) ∧ cur'.size = cur.size ∧ cur'.toList = cur.toList.take o ++ vs ++ cur.toList.drop (o + vs.length)
  | [], o, w, cur, h, _ => ⟨cur, h, rfl, by simp⟩
  | v :: r, o, w, cur, h, hl => by
    have h2 := blk_set h o v
    simp only [List.length_cons] at hl
    obtain ⟨cur', h3, h4, h5⟩ := setCells_row r (o + 1) (w.setCell ⟨g, o, none⟩ v) _ h2 (by simp; omega)
    refine ⟨cur', h3, by rw [h4]; simp, ?_⟩
    rw [h5, Array.toList_setIfInBounds]
    have ho : o < cur.toList.length := by rw [Array.length_toList]; omega
    rw [List.take_set, List.drop_set_of_lt (by omega)]
    simp only [List.length_cons]
    rw [show o + 1 + r.length = o + (r.length + 1) by omega]
    congr 1
    rw [List.take_succ_eq_append_getElem ho, List.set_append_right _ _ (by rw [List.length_take]; omega)]
    have ho' : o < cur.size := by omega
    simp [Nat.min_eq_left (Nat.le_of_lt ho')]
end
namespace Kd
end Kd
namespace Kd
end Kd
theorem seg_get {α : Type} (a seg : List α) (o : Nat) (h : o + seg.length ≤ a.length) (q : Nat) :
    (a.take o ++ seg ++ a.drop (o + seg.length))[q]? = if q < o then a[q]? else if q < o + seg.length then seg[q - o]? else a[q]? := by
  have hl : (a.take o).length = o := by rw [List.length_take]; omega
  rw [List.append_assoc]
  by_cases h1 : q < o
  · rw [if_pos h1, List.getElem?_append_left (by omega), List.getElem?_take, if_pos h1]
  · rw [if_neg h1, List.getElem?_append_right (by omega), hl]
    by_cases h2 : q < o + seg.length
    · rw [if_pos h2, List.getElem?_append_left (by omega)]
    · rw [if_neg h2, List.getElem?_append_right (by omega), List.getElem?_drop]
      congr 1
      omega
namespace Kd
section
variable {α : Type} {d : Kd α} {e base g n cap : Nat} {ok okp : Nat → Prop} {W : World} {xs : List α}
/-- Element i of a row of one's own: its cells. -/
theorem R_elem (h : d.R e W base ok (.slice (some ⟨g, 0, none⟩) n cap) xs) (z : α) (i : Int) (h0 : 0 ≤ i) (h1 : i < n) :
    ∃ c, c.length = d.sz ∧ d.M W base (fun k => ok k ∧ k ≠ g) (xs.getD i.toNat z) c ∧ (∀ j u, c[j]? = some u → W.cell? ⟨g, i.toNat * d.sz + j, none⟩ = some u) ∧ ∀ j, W.frozen? ⟨g, i.toNat * d.sz + j, none⟩ = false := by
  obtain ⟨hn, hnc, hC⟩ := R_reads' h
  obtain ⟨_, inner, ho, hr⟩ := h
  have hil : i.toNat < xs.length := by omega
  have hseg : i.toNat * d.sz + d.sz ≤ inner.length := by rw [hr.1, ← Nat.succ_mul]; exact Nat.mul_le_mul_right _ hil
  have hM := hr.2 i.toNat _ (List.getElem?_eq_getElem hil)
  refine ⟨(inner.drop (i.toNat * d.sz)).take d.sz, by rw [List.length_take, List.length_drop]; omega, ?_, fun j u hu => ?_, fun j => ?_⟩
  · rw [List.getD_eq_getElem?_getD, List.getElem?_eq_getElem hil]
    exact d.M_mono (fun k hk => ⟨hk.1, fun he => hk.2 (by rw [he]; simp [Value.ownBlock])⟩) hM
  · rw [List.getElem?_take] at hu
    split at hu
    · rw [List.getElem?_drop] at hu
      have := ho.cells (g := g) (by simp [Value.ownBlock]) _ u hu
      rwa [add_plain] at this
    · cases hu
  · obtain ⟨cells, hc⟩ := own_typed ho g (by simp [Value.ownBlock])
    exact blk_frozen hc _
/-- A run of cells of element i is written: element i is x' then. c: the element's cells before (R_elem). -/
theorem R_seg (h : d.R e W base ok (.slice (some ⟨g, 0, none⟩) n cap) xs) (i : Int) (h0 : 0 ≤ i) (h1 : i < n) {c seg : List Value} {j : Nat} (hcl : c.length = d.sz) (hcc : ∀ j u, c[j]? = some u → W.cell? ⟨g, i.toNat * d.sz + j, none⟩ = some u)
    (hj : j + seg.length ≤ d.sz) {x' : α} (hM : d.M W base okp x' (c.take j ++ seg ++ c.drop (j + seg.length))) (hokp : ∀ k, okp k → ok k ∧ k ≠ g) :
    d.R e (W.setCells g (i.toNat * d.sz + j) seg) base ok (.slice (some ⟨g, 0, none⟩) n cap) (xs.set i.toNat x') ∧ W.grownBy (W.setCells g (i.toNat * d.sz + j) seg) (some g) := by
  obtain ⟨hn, hnc, _⟩ := R_reads' h
  obtain ⟨hok, inner, ho, hr⟩ := h
  have hil : i.toNat < xs.length := by omega
  have hseg : i.toNat * d.sz + d.sz ≤ inner.length := by rw [hr.1, ← Nat.succ_mul]; exact Nat.mul_le_mul_right _ hil
  have hin : inner.length = n * d.sz := by rw [hr.1, hn]
  obtain ⟨ho1, ho2⟩ := ho
  rcases ho2 with ⟨hv, _⟩ | ⟨g', cap', cur, hv, hb, hh, hnc', hcm, hcs, ht⟩
  · cases hv
  injection hv with ha _ hc
  injection ha with ha
  injection ha with hg
  subst hg; subst hc
  have hfit : i.toNat * d.sz + j + seg.length ≤ cur.size := by
    have : n * d.sz ≤ cap * d.sz := Nat.mul_le_mul_right _ hnc
    omega
  obtain ⟨cur', h3, h4, h5⟩ := setCells_row seg (i.toNat * d.sz + j) W cur hh hfit
  obtain ⟨s1, s2, s3, s4⟩ := setCells_same g seg (i.toNat * d.sz + j) W
  have hfar : ∀ k, k ≠ g → (W.setCells g (i.toNat * d.sz + j) seg).heap[k]? = W.heap[k]? := fun k hk => setCells_far seg _ k hk
  -- the element's cells before are what was read
  have hcin : ∀ q, q < d.sz → c[q]? = inner[i.toNat * d.sz + q]? := by
    intro q hq
    have hq' : q < c.length := by omega
    have h6 := hcc q _ (List.getElem?_eq_getElem hq')
    rw [cell_of_row W g _ cur e (0, 0) hh] at h6
    rw [List.getElem?_eq_getElem hq', ← h6, ← ht, List.getElem?_take, if_pos (by rw [← hn]; omega), Array.getElem?_toList]
  refine ⟨⟨hok, inner.take (i.toNat * d.sz + j) ++ seg ++ inner.drop (i.toNat * d.sz + j + seg.length), ⟨?_, .inr ⟨g, cap, cur', by rw [List.length_set, hn], hb, h3, by rw [List.length_set, ← hn]; exact hnc, hcm, by rw [h4, hcs], ?_⟩⟩, ?_⟩,
    ⟨s1, s2, s3, by rw [s4]; exact Nat.le_refl _, fun k _ hk => hfar k (fun he => hk (by rw [he]))⟩⟩
  · rw [List.length_set]
    simp only [List.length_append, List.length_take, List.length_drop]
    rw [hr.1] at hseg ⊢
    omega
  · rw [List.length_set, ← hn]
    apply List.ext_getElem?
    intro q
    rw [List.getElem?_take, h5]
    rw [seg_get cur.toList seg (i.toNat * d.sz + j) (by rw [Array.length_toList]; omega) q, seg_get inner seg (i.toNat * d.sz + j) (by omega) q]
    have hcur : ∀ q, q < n * d.sz → cur.toList[q]? = inner[q]? := by
      intro q hq
      rw [← ht, List.getElem?_take, if_pos (by rw [← hn]; exact hq)]
    by_cases hq : q < n * d.sz
    · rw [if_pos hq, hcur q hq]
    · rw [if_neg hq, if_neg (by omega), if_neg (by omega), List.getElem?_eq_none (by omega)]
  · refine ⟨?_, fun m p hm => ?_⟩
    · rw [List.length_set]
      simp only [List.length_append, List.length_take, List.length_drop]
      rw [hr.1] at hseg ⊢
      omega
    · have hml : m < xs.length := by
        have := (List.getElem?_eq_some_iff.1 hm).1
        rwa [List.length_set] at this
      have hmfit : m * d.sz + d.sz ≤ inner.length := by rw [hr.1, ← Nat.succ_mul]; exact Nat.mul_le_mul_right _ hml
      have hgo : some g = (Value.slice (some ⟨g, 0, none⟩) n cap).ownBlock := by simp [Value.ownBlock]
      by_cases hmi : m = i.toNat
      · subst hmi
        rw [List.getElem?_set_self (by omega)] at hm
        injection hm with hm
        subst hm
        have hcells : ((inner.take (i.toNat * d.sz + j) ++ seg ++ inner.drop (i.toNat * d.sz + j + seg.length)).drop (i.toNat * d.sz)).take d.sz = c.take j ++ seg ++ c.drop (j + seg.length) := by
          apply List.ext_getElem?
          intro q
          rw [List.getElem?_take, List.getElem?_drop, seg_get inner seg _ (by omega), seg_get c seg j (by omega) q]
          by_cases hq : q < d.sz
          · rw [if_pos hq, hcin q hq]
            by_cases hq1 : q < j
            · rw [if_pos (by omega), if_pos hq1]
            · rw [if_neg (by omega), if_neg hq1]
              by_cases hq2 : q < j + seg.length
              · rw [if_pos (by omega), if_pos hq2]
                congr 1
                omega
              · rw [if_neg (by omega), if_neg hq2]
          · rw [if_neg hq, if_neg (by omega), if_neg (by omega), List.getElem?_eq_none (by omega)]
        rw [hcells]
        refine d.M_mono (fun k hk => ?_) (d.M_move (w1 := W.setCells g (i.toNat * d.sz + j) seg) (fun k hk => hfar k (hokp k hk).2) hM)
        exact ⟨(hokp k hk).1, fun he => (hokp k hk).2 (by rw [← hgo] at he; injection he)⟩
      · rw [List.getElem?_set_ne (by omega)] at hm
        have hold := hr.2 m p hm
        have hcells : ((inner.take (i.toNat * d.sz + j) ++ seg ++ inner.drop (i.toNat * d.sz + j + seg.length)).drop (m * d.sz)).take d.sz = (inner.drop (m * d.sz)).take d.sz := by
          apply List.ext_getElem?
          intro q
          rw [List.getElem?_take, List.getElem?_take, List.getElem?_drop, List.getElem?_drop, seg_get inner seg _ (by omega)]
          by_cases hq : q < d.sz
          · rw [if_pos hq, if_pos hq]
            rcases Nat.lt_or_gt_of_ne hmi with hlt | hgt
            · have : m * d.sz + d.sz ≤ i.toNat * d.sz := by rw [← Nat.succ_mul]; exact Nat.mul_le_mul_right _ hlt
              rw [if_pos (by omega)]
            · have : i.toNat * d.sz + d.sz ≤ m * d.sz := by rw [← Nat.succ_mul]; exact Nat.mul_le_mul_right _ hgt
              rw [if_neg (by omega), if_neg (by omega)]
          · rw [if_neg hq, if_neg hq]
        rw [hcells]
        refine d.M_move (fun k hk => hfar k (fun he => hk.2 (by rw [he]; exact hgo))) hold
end
end Kd
namespace Kd
end Kd
namespace Kd
end Kd
theorem run_store_run {P : Program} {w : World} {g o : Nat} {e : TypeId} {cur : Array Value} (t : TypeId) (u : Value) (seg : List Value) (hh : w.heap[g]? = some (.cells cur e (0, 0))) (hu : u.cells.toList = seg) (ht : (P.info? t).map (·.size) = some seg.length)
    (hfit : o + seg.length ≤ cur.size) (h1 : ∀ q ∈ seg, q.oneCell' = true) : (Instr.storeAt t (.pointer (some ⟨g, o, none⟩)) u).run P w = .ok () (w.setCells g o seg) := by
  obtain ⟨i, hi, hsz⟩ := Option.map_eq_some_iff.1 ht
  have hc : u.cells.size = i.size := by rw [hsz, ← hu, Array.length_toList]
  have hst := run_storeCells_cells (P := P) g o seg 0 w (fun j hj => by rw [cell_of_row w g _ cur e (0, 0) hh]; simp; omega) (fun j _ => blk_frozen hh _) h1
  simp only [Nat.add_zero] at hst
  simp [Instr.storeAt, Instr.sureAddr, storeVar, sizeOf, typeInfo, hi, hc, hu, hst]
namespace Kd
section
variable {P : Program} {ops : Array Oper} {rest : List Oper} {o : Oper} {a : Act} {Q : Exit → Act → World → Prop} {α : Type}
/-- out[i].f = u, out[i] = T{..}: the cells from j on of element i are written. The row, its neighbours, the world as_ letters. -/
theorem R_store (d : Kd α) {w0 W : World} (base : Nat) (hN : o.dst = none) (hgd : o.guard = none) (t : TypeId) (p x : Operand) (ho : o.op = .store t p x) (e : TypeId) {g n cap o' : Nat} (i : Int) (j : Nat) (xs : List α) (x' : α) (u : Value) (seg c : List Value) (ok okp : Nat → Prop)
    (haddr : a.eval p = .pointer (some ⟨g, o', none⟩)) (hoff : o' = i.toNat * d.sz + j) (hx : a.eval x = u) (hu : u.cells.toList = seg) (ht : (P.info? t).map (·.size) = some seg.length) (h1 : ∀ q ∈ seg, q.oneCell' = true)
    (HO : d.R e W base ok (.slice (some ⟨g, 0, none⟩) n cap) xs) (h0 : 0 ≤ i) (hi : i < n) (hcl : c.length = d.sz) (hcc : ∀ j u, c[j]? = some u → W.cell? ⟨g, i.toNat * d.sz + j, none⟩ = some u)
    (hj : j + seg.length ≤ d.sz) (hM : d.M W base okp x' (c.take j ++ seg ++ c.drop (j + seg.length))) (hokp : ∀ k, okp k → ok k ∧ k ≠ g) (HB : Below base w0 W)
    (h : ∀ w1, d.R e w1 base ok (.slice (some ⟨g, 0, none⟩) n cap) (xs.set i.toNat x') → Below base w0 w1 → W.grownBy w1 (some g) → wpList P ops Q rest a w1) : wpList P ops Q (o :: rest) a W := by
  subst hoff
  obtain ⟨hrow, hg⟩ := R_seg HO i h0 hi hcl hcc hj hM hokp
  have hbg : base ≤ g := R_base HO g (by simp [Value.ownBlock])
  have hnx : n = xs.length := (R_reads' HO).1
  obtain ⟨_, inner, hown, hr⟩ := HO
  have hil : i.toNat < n := by omega
  have hB : Below base w0 (W.setCells g (i.toNat * d.sz + j) seg) := HB.trans ⟨hg.os, hg.tape, hg.output, hg.size, fun k hk => by
    have hlt : k < W.heap.size ∨ W.heap.size ≤ k := Nat.lt_or_ge _ _
    rcases hlt with hlt | hge
    · exact hg.block k hlt (fun he => by injection he with he; omega)
    · exact setCells_far seg _ k (by omega)⟩
  refine wpList_plain hgd fun K hK => ?_
  have hrun : (Instr.storeAt t (.pointer (some ⟨g, i.toNat * d.sz + j, none⟩)) u).run P W = .ok () (W.setCells g (i.toNat * d.sz + j) seg) := by
    rcases hown.2 with ⟨hv, _⟩ | ⟨g', cap', cur, hv, hb, hh, hnc, hcm, hcs, _⟩
    · cases hv
    injection hv with ha _ hc
    injection ha with ha
    injection ha with hg'
    subst hg'; subst hc
    refine run_store_run t u seg hh hu ht ?_ h1
    have h2 : i.toNat * d.sz + d.sz ≤ n * d.sz := by rw [← Nat.succ_mul]; exact Nat.mul_le_mul_right _ hil
    have h3 : n * d.sz ≤ cap * d.sz := Nat.mul_le_mul_right _ (by omega)
    omega
  unfold Oper.wp execOp
  simp only [ho, haddr, hx, Sem.run_bind, Sem.run_pure, Result.andThen_ok, hrun]
  show K (a.put o.dst undef) _
  rw [hN]
  exact hK a _ (h _ hrow hB hg)
end
end Kd
namespace Kd
end Kd
theorem string_of_reads {P : Program} {w : World} {src dst e : TypeId} {A : Option Addr} {n c : Nat} {xs : List Int} (hs : P.underlying src = some (.slice e)) (he : P.underlying e = some (.int .u8)) (hd : P.underlying dst = some .string)
    (h : ReadsInt w .u8 A n xs) : (convert src dst (.slice A n c)).run P w = .ok (.string (strOfNums xs)) w := by
  have hn : xs.length = n := h.1
  rcases A with _ | ad
  · have h0 : n = 0 := by
      rcases Nat.eq_zero_or_pos n with h0 | h0
      · exact h0
      · obtain ⟨ad, h', _⟩ := h.2.2 h0
        cases h'
    subst h0
    obtain rfl : xs = [] := List.eq_nil_of_length_eq_zero hn
    exact run_convert_bytes_nil w src e hs he 0 c dst hd
  · have hl : (loadCells ad n).run P w = .ok (xs.map (Value.int .u8)).toArray w := by
      have := run_loadCells_list (P := P) w ad (xs.map (Value.int .u8)) (fun j v hj => by
        have hjl : j < xs.length := by
          rcases Nat.lt_or_ge j xs.length with h' | h'
          · exact h'
          · rw [List.getElem?_eq_none (by rw [List.length_map]; exact h')] at hj
            cases hj
        obtain ⟨ad', he', hc⟩ := h.2.2 (by omega)
        injection he' with he'
        subst he'
        rw [hc j (by omega)]
        rw [List.getElem?_map, List.getElem?_eq_getElem hjl] at hj
        simp at hj
        subst hj
        simp [List.getD_eq_getElem?_getD, List.getElem?_eq_getElem hjl])
      simpa [hn] using this
    rw [run_convert_bytes_string w src dst e _ n c hs he hd, run_bytesToString w ad n c xs hl, foldl_push_bytes]
    simp [strOfNums, ByteArray.empty, ByteArray.emptyWithCapacity]
    rfl
theorem below_set {w W : World} {g j : Nat} {v : Value} (h : Below w.heap.size w W) (hg : w.heap.size ≤ g) : Below w.heap.size w (W.setCell ⟨g, j, none⟩ v) := h.setCell hg _
namespace Kd
end Kd
namespace Kd
end Kd
namespace Kd
end Kd
namespace Kd
end Kd
section
variable {P : Program} {ops : Array Oper} {rest : List Oper} {o : Oper} {a : Act} {Q : Exit → Act → World → Prop} {W : World}
theorem gate_dst {N : Tmp} (_hN : o.dst = some N) (h : wpList P ops Q (o :: rest) a W) : wpList P ops Q (o :: rest) a W := h
theorem gate_store {t : TypeId} {p : Tmp} {v : Operand} (_ho : o.op = .store t (.tmp p) v) (h : wpList P ops Q (o :: rest) a W) : wpList P ops Q (o :: rest) a W := h
end
section
variable {P : Program} {ops : Array Oper} {o : Oper} {a : Act} {Q : Exit → Act → World → Prop} {Kc : Act → World → Prop}
namespace Kd
variable {α : Type}
end Kd
end
namespace Kd
end Kd
end Go.Proofs.YtckcffjnffcjcaaDoorW.PrintWords
set_option linter.unusedVariables false
set_option linter.unusedSimpArgs false
namespace Go.Proofs.YtckcffjnffcjcaaDoor
open Go.RowKit Go.Proofs.YtckcffjnffcjcaaDoorW.PrintWords
structure EndT where
  piece : Int
  side : Int
instance : Inhabited EndT := ⟨⟨0, 0⟩⟩
theorem EndT.ext_iff {a b : EndT} : (a.piece = b.piece ∧ a.side = b.side) ↔ a = b := by
  cases a; cases b; simp
instance : DecidableEq EndT := fun a b => decidable_of_iff (a.piece = b.piece ∧ a.side = b.side) EndT.ext_iff
def kEnd : Kd EndT := Kd.iso (Kd.pair (Kd.int .i64) (Kd.int .i64)) (fun x => (x.piece, x.side))
theorem kEnd_open {w : World} {x : EndT} {cs : List Value} (h : kEnd.K w x cs) : cs = [.int .i64 x.piece, .int .i64 x.side] := by
  obtain ⟨_, _, rfl, rfl, rfl⟩ := h
  exact rfl
theorem kEnd_mkM (w : World) (base : Nat) (ok : Nat → Prop) (x : EndT) : kEnd.M w base ok x [.int .i64 x.piece, .int .i64 x.side] := ⟨[.int .i64 x.piece], [.int .i64 x.side], rfl, rfl, rfl⟩
theorem at_End {w : World} {A : Option Addr} {n : Nat} {xs : List EndT} (h : Kd.C kEnd w A n xs) (i : Nat) (hi : i < n) : ∃ ad, A = some ad ∧ w.cell? (ad.add (i * 2)) = some (.int .i64 (xs.getD i default).piece) ∧ w.cell? ⟨(ad.add (i * 2)).block, (ad.add (i * 2)).off + 1, none⟩ = some (.int .i64 (xs.getD i default).side) := by
  obtain ⟨ad, c, e, _, hK, hc0⟩ := Kd.C_get h default (i : Int) (by omega) (by omega)
  rw [Int.toNat_natCast] at hK hc0
  have hc : ∀ j u, c[j]? = some u → w.cell? (ad.add (i * 2 + j)) = some u := hc0
  obtain rfl := kEnd_open hK
  exact ⟨ad, e, hc 0 _ rfl, by rw [← add_field _ _ 1 (by omega)]; exact hc 1 _ rfl⟩
structure PieceT where
  name : ByteArray
  len : Int
  speed : Int
  brake : Int
instance : Inhabited PieceT := ⟨⟨⟨#[]⟩, 0, 0, 0⟩⟩
theorem PieceT.ext_iff {a b : PieceT} : (a.name = b.name ∧ a.len = b.len ∧ a.speed = b.speed ∧ a.brake = b.brake) ↔ a = b := by
  cases a; cases b; simp
instance : DecidableEq PieceT := fun a b => decidable_of_iff (a.name = b.name ∧ a.len = b.len ∧ a.speed = b.speed ∧ a.brake = b.brake) PieceT.ext_iff
def kPiece : Kd PieceT := Kd.iso (Kd.pair Kd.string (Kd.pair (Kd.int .i64) (Kd.pair (Kd.int .i64) (Kd.int .i64)))) (fun x => (x.name, x.len, x.speed, x.brake))
theorem kPiece_open {w : World} {x : PieceT} {cs : List Value} (h : kPiece.K w x cs) : cs = [.string x.name, .int .i64 x.len, .int .i64 x.speed, .int .i64 x.brake] := by
  obtain ⟨_, _, rfl, rfl, ⟨_, _, rfl, rfl, ⟨_, _, rfl, rfl, rfl⟩⟩⟩ := h
  exact rfl
theorem kPiece_mkM (w : World) (base : Nat) (ok : Nat → Prop) (x : PieceT) : kPiece.M w base ok x [.string x.name, .int .i64 x.len, .int .i64 x.speed, .int .i64 x.brake] := ⟨[.string x.name], [.int .i64 x.len, .int .i64 x.speed, .int .i64 x.brake], rfl, rfl, ⟨[.int .i64 x.len], [.int .i64 x.speed, .int .i64 x.brake], rfl, rfl, ⟨[.int .i64 x.speed], [.int .i64 x.brake], rfl, rfl, rfl⟩⟩⟩
theorem at_Piece {w : World} {A : Option Addr} {n : Nat} {xs : List PieceT} (h : Kd.C kPiece w A n xs) (i : Nat) (hi : i < n) : ∃ ad, A = some ad ∧ w.cell? (ad.add (i * 4)) = some (.string (xs.getD i default).name) ∧ w.cell? ⟨(ad.add (i * 4)).block, (ad.add (i * 4)).off + 1, none⟩ = some (.int .i64 (xs.getD i default).len) ∧ w.cell? ⟨(ad.add (i * 4)).block, (ad.add (i * 4)).off + 2, none⟩ = some (.int .i64 (xs.getD i default).speed) ∧ w.cell? ⟨(ad.add (i * 4)).block, (ad.add (i * 4)).off + 3, none⟩ = some (.int .i64 (xs.getD i default).brake) := by
  obtain ⟨ad, c, e, _, hK, hc0⟩ := Kd.C_get h default (i : Int) (by omega) (by omega)
  rw [Int.toNat_natCast] at hK hc0
  have hc : ∀ j u, c[j]? = some u → w.cell? (ad.add (i * 4 + j)) = some u := hc0
  obtain rfl := kPiece_open hK
  exact ⟨ad, e, hc 0 _ rfl, by rw [← add_field _ _ 1 (by omega)]; exact hc 1 _ rfl, by rw [← add_field _ _ 2 (by omega)]; exact hc 2 _ rfl, by rw [← add_field _ _ 3 (by omega)]; exact hc 3 _ rfl⟩
structure SpotT where
  piece : Int
  at_ : Int
  way : Int
instance : Inhabited SpotT := ⟨⟨0, 0, 0⟩⟩
theorem SpotT.ext_iff {a b : SpotT} : (a.piece = b.piece ∧ a.at_ = b.at_ ∧ a.way = b.way) ↔ a = b := by
  cases a; cases b; simp
instance : DecidableEq SpotT := fun a b => decidable_of_iff (a.piece = b.piece ∧ a.at_ = b.at_ ∧ a.way = b.way) SpotT.ext_iff
structure PartT where
  piece : Int
  frm : Int
  upto : Int
instance : Inhabited PartT := ⟨⟨0, 0, 0⟩⟩
theorem PartT.ext_iff {a b : PartT} : (a.piece = b.piece ∧ a.frm = b.frm ∧ a.upto = b.upto) ↔ a = b := by
  cases a; cases b; simp
instance : DecidableEq PartT := fun a b => decidable_of_iff (a.piece = b.piece ∧ a.frm = b.frm ∧ a.upto = b.upto) PartT.ext_iff
structure StepT where
  piece : Int
  way : Int
instance : Inhabited StepT := ⟨⟨0, 0⟩⟩
theorem StepT.ext_iff {a b : StepT} : (a.piece = b.piece ∧ a.way = b.way) ↔ a = b := by
  cases a; cases b; simp
instance : DecidableEq StepT := fun a b => decidable_of_iff (a.piece = b.piece ∧ a.way = b.way) StepT.ext_iff
structure LieT where
  joint : Int
  lie : Int
instance : Inhabited LieT := ⟨⟨0, 0⟩⟩
theorem LieT.ext_iff {a b : LieT} : (a.joint = b.joint ∧ a.lie = b.lie) ↔ a = b := by
  cases a; cases b; simp
instance : DecidableEq LieT := fun a b => decidable_of_iff (a.joint = b.joint ∧ a.lie = b.lie) LieT.ext_iff
structure JointT where
  kind : Int
  name : ByteArray
  ends : List EndT
instance : Inhabited JointT := ⟨⟨0, ⟨#[]⟩, []⟩⟩
theorem JointT.ext_iff {a b : JointT} : (a.kind = b.kind ∧ a.name = b.name ∧ a.ends = b.ends) ↔ a = b := by
  cases a; cases b; simp
instance : DecidableEq JointT := fun a b => decidable_of_iff (a.kind = b.kind ∧ a.name = b.name ∧ a.ends = b.ends) JointT.ext_iff
/-- A joint; e: the type of its ends' elements. -/
def kJoint (e : Nat) : Kd JointT := Kd.iso (Kd.pair (Kd.int .i64) (Kd.pair Kd.string (Kd.slice e kEnd))) (fun x => (x.kind, x.name, x.ends))
theorem kJoint_open {e : Nat} {w : World} {x : JointT} {cs : List Value} (h : (kJoint e).K w x cs) : ∃ A2 c2, cs = [.int .i64 x.kind, .string x.name, .slice A2 x.ends.length c2] ∧ x.ends.length ≤ c2 ∧ kEnd.C w A2 x.ends.length x.ends := by
  obtain ⟨_, _, rfl, rfl, ⟨_, _, rfl, rfl, ⟨A2, c2, rfl, l2, g2⟩⟩⟩ := h
  exact ⟨A2, c2, rfl, l2, g2⟩
theorem kJoint_mkM {e : Nat} (w : World) (base : Nat) (ok : Nat → Prop) (x : JointT) {v2 : Value} (g2 : kEnd.R e w base ok v2 x.ends) : (kJoint e).M w base ok x [.int .i64 x.kind, .string x.name, v2] := ⟨[.int .i64 x.kind], [.string x.name, v2], rfl, rfl, ⟨[.string x.name], [v2], rfl, rfl, ⟨v2, rfl, g2⟩⟩⟩
theorem at_Joint {e : Nat} {w : World} {A : Option Addr} {n : Nat} {xs : List JointT} (h : Kd.C (kJoint e) w A n xs) (i : Nat) (hi : i < n) : ∃ ad A2 c2, A = some ad ∧ w.cell? (ad.add (i * 3)) = some (.int .i64 (xs.getD i default).kind) ∧ w.cell? ⟨(ad.add (i * 3)).block, (ad.add (i * 3)).off + 1, none⟩ = some (.string (xs.getD i default).name) ∧ w.cell? ⟨(ad.add (i * 3)).block, (ad.add (i * 3)).off + 2, none⟩ = some (.slice A2 (xs.getD i default).ends.length c2) ∧ (xs.getD i default).ends.length ≤ c2 ∧ kEnd.C w A2 (xs.getD i default).ends.length (xs.getD i default).ends := by
  obtain ⟨ad, c, e, _, hK, hc0⟩ := Kd.C_get h default (i : Int) (by omega) (by omega)
  rw [Int.toNat_natCast] at hK hc0
  have hc : ∀ j u, c[j]? = some u → w.cell? (ad.add (i * 3 + j)) = some u := hc0
  obtain ⟨A2, c2, rfl, l2, g2⟩ := kJoint_open hK
  exact ⟨ad, A2, c2, e, hc 0 _ rfl, by rw [← add_field _ _ 1 (by omega)]; exact hc 1 _ rfl, by rw [← add_field _ _ 2 (by omega)]; exact hc 2 _ rfl, l2, g2⟩
structure NetT where
  pieces : List PieceT
  joints : List JointT
instance : Inhabited NetT := ⟨⟨[], []⟩⟩
theorem NetT.ext_iff {a b : NetT} : (a.pieces = b.pieces ∧ a.joints = b.joints) ↔ a = b := by
  cases a; cases b; simp
instance : DecidableEq NetT := fun a b => decidable_of_iff (a.pieces = b.pieces ∧ a.joints = b.joints) NetT.ext_iff
/-- A net's two rows, as they are read; e: the type of the ends' elements. -/
def RdNet (e : Nat) (w : World) (u : (Option Addr × Nat) × (Option Addr × Nat)) (x : NetT) : Prop :=
  (Kd.C kPiece w u.1.1 x.pieces.length x.pieces ∧ x.pieces.length ≤ u.1.2) ∧ (Kd.C (kJoint e) w u.2.1 x.joints.length x.joints ∧ x.joints.length ≤ u.2.2)
theorem RdNet.below {e : Nat} {w w1 : World} {u : (Option Addr × Nat) × (Option Addr × Nat)} {x : NetT} (h : RdNet e w u x) (hb : Below w.heap.size w w1) : RdNet e w1 u x :=
  ⟨⟨Kd.C_below h.1.1 hb, h.1.2⟩, ⟨Kd.C_below h.2.1 hb, h.2.2⟩⟩
structure PathT where
  ok : Bool
  far : Int
  steps : List StepT
  lies : List LieT
theorem PathT.ext_iff {a b : PathT} : (a.ok = b.ok ∧ a.far = b.far ∧ a.steps = b.steps ∧ a.lies = b.lies) ↔ a = b := by
  cases a; cases b; simp
instance : DecidableEq PathT := fun a b => decidable_of_iff (a.ok = b.ok ∧ a.far = b.far ∧ a.steps = b.steps ∧ a.lies = b.lies) PathT.ext_iff
end Go.Proofs.YtckcffjnffcjcaaDoor
set_option linter.unusedVariables false
namespace Go.Proofs.YtckcffjnffcjcaaDoor
open Go.RowKit Go.WideShapes Go.Proofs.YtckcffjnffcjcaaDoorW.PrintWords
theorem take_getD {α : Type} [Inhabited α] (l : List α) (i : Nat) (h : i < l.length) : l.take (i + 1) = l.take i ++ [l.getD i default] := by
  rw [List.take_succ_eq_append_getElem h, List.getD_eq_getElem?_getD, List.getElem?_eq_getElem h]; rfl
theorem getD_at {α : Type} [Inhabited α] (l : List α) (i : Nat) (h : i < l.length) : l.getD i default = l[i] := by
  rw [List.getD_eq_getElem?_getD, List.getElem?_eq_getElem h]; rfl
/-- One more element is alike. -/
theorem take_step {α : Type} [Inhabited α] {l0 l1 : List α} {i : Nat} (h0 : i < l0.length) (h1 : i < l1.length) (h : l0.take i = l1.take i) {p q : α} (hp : p = l0.getD i default) (hq : q = l1.getD i default) (e : p = q) : l0.take (i + 1) = l1.take (i + 1) := by
  rw [take_getD l0 i h0, take_getD l1 i h1, h, ← hp, ← hq, e]
theorem take_all {α : Type} {l0 l1 : List α} {i : Nat} (h : l0.take i = l1.take i) (h0 : l0.length ≤ i) (h1 : l1.length ≤ i) : l0 = l1 := by
  rwa [List.take_of_length_le h0, List.take_of_length_le h1] at h
theorem ne_of_getD {α : Type} [Inhabited α] {l0 l1 : List α} {i : Nat} {p q : α} (hp : p = l0.getD i default) (hq : q = l1.getD i default) (e : p ≠ q) : l0 ≠ l1 := by
  rintro rfl; exact e (hp.trans hq.symm)
theorem toList_inj {a b : ByteArray} : a.toList = b.toList ↔ a = b :=
  ⟨fun h => bytes_inj (by rw [← ByteArray.toList_eq, ← ByteArray.toList_eq, h]), congrArg _⟩
theorem below_two (w : World) (o1 o2 : Obj) : Below w.heap.size w ((w.alloc o1).alloc o2) := below_alloc (below_alloc (Below.refl _ _) o1) o2
theorem below_more {w w1 w2 : World} (h : Below w.heap.size w w1) (h2 : Below w1.heap.size w1 w2) : Below w.heap.size w w2 := below_then h h.size h2
theorem bcell {W w1 : World} (hb : Below W.heap.size W w1) : (∀ b o, b < W.heap.size → w1.cell? ⟨b, o, none⟩ = W.cell? ⟨b, o, none⟩) ∧ (∀ b o, b < W.heap.size → w1.frozen? ⟨b, o, none⟩ = W.frozen? ⟨b, o, none⟩) :=
  ⟨fun b o h => hb.cell (p := ⟨b, o, none⟩) h, fun b o h => hb.frozen (p := ⟨b, o, none⟩) h⟩
theorem getD_mem {α : Type} [Inhabited α] (l : List α) (i : Nat) (h : i < l.length) : l.getD i default ∈ l := by
  rw [getD_at l i h]; exact List.getElem_mem h
end Go.Proofs.YtckcffjnffcjcaaDoor
namespace Go.Proofs.YtckcffjnffcjcaaDoor
open Go.RowKit Go.WideShapes Go.Proofs.YtckcffjnffcjcaaDoorW.PrintWords
section
variable {P : Program} {ops : Array Oper} {rest : List Oper} {o : Oper} {a : Act} {Q : Exit → Act → World → Prop} {α : Type}
/-- A whole element of a row of the call's own is written. -/
theorem store_whole (d : Kd α) {w0 W : World} (base : Nat) (hN : o.dst = none) (hgd : o.guard = none) (t : TypeId) (p x : Operand) (ho : o.op = .store t p x) (e : TypeId) {g n cap o' : Nat} (i : Nat) (xs : List α) (x' : α) (u : Value) (z : α) (ok okp : Nat → Prop)
    (haddr : a.eval p = .pointer (some ⟨g, o', none⟩)) (hoff : o' = i * d.sz) (hx : a.eval x = u) (ht : (P.info? t).map (·.size) = some d.sz)
    (HO : d.R e W base ok (.slice (some ⟨g, 0, none⟩) n cap) xs) (hi : i < n)
    (hM : d.M W base okp x' u.cells.toList) (hokp : ∀ k, okp k → ok k ∧ k ≠ g) (HB : Below base w0 W)
    (h : ∀ w1, d.R e w1 base ok (.slice (some ⟨g, 0, none⟩) n cap) (xs.set i x') → Below base w0 w1 → W.grownBy w1 (some g) → wpList P ops Q rest a w1) : wpList P ops Q (o :: rest) a W := by
  obtain ⟨c, hcl, _, hcc, _⟩ := Kd.R_elem HO z (i : Int) (by omega) (by omega)
  have hl : u.cells.toList.length = d.sz := d.K_len (d.K_of_M hM)
  refine Kd.R_store d base hN hgd t p x ho e (i : Int) 0 xs x' u u.cells.toList c ok okp haddr (by rw [hoff]; simp) hx rfl (by rw [hl]; exact ht) (d.K_one (d.K_of_M hM)) HO (by omega) (by omega) hcl hcc (by omega) ?_ hokp HB ?_
  · have : c.drop (0 + u.cells.toList.length) = [] := List.drop_of_length_le (by omega)
    rw [this]; simpa using hM
  · rw [Int.toNat_natCast]; exact h
end
theorem set_fill {α : Type} [Inhabited α] (l : List α) (i : Nat) (h : i < l.length) : (l.take i ++ List.replicate (l.length - i) default).set i (l.getD i default) = l.take (i + 1) ++ List.replicate (l.length - (i + 1)) default := by
  have hl : (l.take i).length = i := by rw [List.length_take]; omega
  rw [List.set_append_right _ _ (by omega), hl, Nat.sub_self, take_getD l i h, List.append_assoc]
  congr 1
  rw [show l.length - i = (l.length - (i + 1)) + 1 from by omega, List.replicate_succ]
  rfl
end Go.Proofs.YtckcffjnffcjcaaDoor
namespace Go.Proofs.YtckcffjnffcjcaaDoor
open Go.RowKit Go.WideShapes Go.Proofs.YtckcffjnffcjcaaDoorW.PrintWords
section
variable {α : Type} {d : Kd α} {e : Nat} {w : World} {base : Nat} {ok : Nat → Prop} {v : Value} {xs : List α}
/-- A store below the base leaves a row alone. -/
theorem R_apart (h : d.R e w base ok v xs) {p : Addr} (hp : p.block < base) (u : Value) : d.R e (w.setCell p u) base ok v xs :=
  Kd.R_mono (Kd.R_far (Kd.R_bound h) (fun k hk => by have := hk.2.1; omega) u) (fun _ hk => hk.1)
/-- Among the ok blocks, those from the base on. -/
theorem R_from (h : d.R e w base ok v xs) : d.R e w base (fun k => base ≤ k) v xs := Kd.R_mono (Kd.R_bound h) (fun _ hk => hk.2.1)
end
theorem below_three (w : World) (o1 o2 o3 : Obj) : Below w.heap.size w (((w.alloc o1).alloc o2).alloc o3) := below_alloc (below_two w o1 o2) o3
end Go.Proofs.YtckcffjnffcjcaaDoor
namespace Go.Proofs.YtckcffjnffcjcaaDoor
open Go.RowKit Go.WideShapes Go.Proofs.YtckcffjnffcjcaaDoorW.PrintWords
/-- A block of the call's own that holds these cells. -/
structure Bx (W : World) (b : Nat) (vs : List Value) : Prop where
  lt : b < W.heap.size
  c : ∀ i v, vs[i]? = some v → W.cell? ⟨b, i, none⟩ = some v
  f : ∀ i, W.frozen? ⟨b, i, none⟩ = false
theorem Bx.new (w : World) (vs : List Value) (t : TypeId) : Bx (w.alloc (.cells vs.toArray t)) w.heap.size vs := by
  refine ⟨by simp, fun i v h => ?_, fun i => ?_⟩
  · unfold World.cell?
    rw [(MapKept.heap_alloc w _).1]
    simp [h]
  · unfold World.frozen?
    rw [(MapKept.heap_alloc w _).1]
    simp
theorem Bx.below {W W1 : World} {b : Nat} {vs : List Value} (h : Bx W b vs) (hb : Below W.heap.size W W1) : Bx W1 b vs :=
  ⟨Nat.lt_of_lt_of_le h.lt hb.size, fun i v hv => (hb.cell (p := ⟨b, i, none⟩) h.lt).trans (h.c i v hv), fun i => (hb.frozen (p := ⟨b, i, none⟩) h.lt).trans (h.f i)⟩
theorem Bx.alloc {W : World} {b : Nat} {vs : List Value} (h : Bx W b vs) (o : Obj) : Bx (W.alloc o) b vs := h.below (below_alloc (Below.refl _ _) o)
theorem find_first {p : Nat → Bool} {n i : Nat} (h : i < n) (hp : p i = true) (hb : ∀ k, k < i → p k = false) : (List.range n).find? p = some i := by
  rw [List.find?_range_eq_some]
  exact ⟨hp, by simpa using h, fun j hj => by rw [hb j hj]; rfl⟩
theorem find_none {p : Nat → Bool} {n : Nat} (hb : ∀ k, k < n → p k = false) : (List.range n).find? p = none := by
  rw [List.find?_eq_none]
  intro x hx
  rw [hb x (List.mem_range.1 hx)]; simp
theorem upto_step {p : Nat → Prop} {i : Nat} (h : ∀ k, k < i → p k) (hi : p i) : ∀ k, k < i + 1 → p k := fun k hk => by
  by_cases e : k = i
  · rw [e]; exact hi
  · exact h k (by omega)
end Go.Proofs.YtckcffjnffcjcaaDoor
set_option linter.unusedVariables false
set_option linter.unusedSimpArgs false
namespace Go.Proofs.YtckcffjnffcjcaaDoor
open Go.RowKit Go.Proofs.YtckcffjnffcjcaaDoorW.PrintWords
theorem eqEnd_any (p q : EndT) (w : World) :
    Calls Tryd.prog 93 #[.agg #[.int .i64 p.piece, .int .i64 p.side], .agg #[.int .i64 q.piece, .int .i64 q.side]] w fun e w' => e = .returned (.bool (decide (p = q))) ∧ Below w.heap.size w w' := by
  go_enter Tryd.func93, Tryd.ntmps93
  go_wp2
  all_goals
    go_ret
    refine ⟨?_, below_two _ _ _⟩
    rw [show decide (p = q) = decide (p.piece = q.piece ∧ p.side = q.side) from decide_eq_decide.2 EndT.ext_iff.symm]
    simp_all [toList_inj]
theorem eqPiece_any (p q : PieceT) (w : World) :
    Calls Tryd.prog 54 #[.agg #[.string p.name, .int .i64 p.len, .int .i64 p.speed, .int .i64 p.brake], .agg #[.string q.name, .int .i64 q.len, .int .i64 q.speed, .int .i64 q.brake]] w fun e w' => e = .returned (.bool (decide (p = q))) ∧ Below w.heap.size w w' := by
  go_enter Tryd.func54, Tryd.ntmps54
  go_wp2
  all_goals
    go_ret
    refine ⟨?_, below_two _ _ _⟩
    rw [show decide (p = q) = decide (p.name = q.name ∧ p.len = q.len ∧ p.speed = q.speed ∧ p.brake = q.brake) from decide_eq_decide.2 PieceT.ext_iff.symm]
    simp_all [toList_inj]
set_option maxRecDepth 100000 in
theorem eqPieceS_any (A0 : Option Addr) (c0 : Nat) (l0 : List PieceT) (A1 : Option Addr) (c1 : Nat) (l1 : List PieceT) (w : World)
    (hr0 : Kd.C kPiece w A0 l0.length l0) (hr1 : Kd.C kPiece w A1 l1.length l1) :
    Calls Tryd.prog 29 #[.slice A0 l0.length c0, .slice A1 l1.length c1] w
      fun e w' => e = .returned (.bool (decide (l0 = l1))) ∧ Below w.heap.size w w' := by
  have hm0 := hr0.2.1
  have hm1 := hr1.2.1
  have HR0 := Aside0.mk hr0
  have HR1 := Aside0.mk hr1
  clear hr0 hr1
  by_cases hl : l0.length = l1.length
  · have hb : ((l0.length : Int) != (l1.length : Int)) = false := by simp [hl]
    have hb2 : (l0.length != l1.length) = false := by simp [hl]
    have HL := Aside0.mk hl
    clear hl
    go_enter Tryd.func29, Tryd.ntmps29
    go_wp2
    clear hb hb2
    go_loopw [5] (fun v5 wr => ∃ i : Nat, v5 = .int .i64 i ∧ i ≤ l0.length ∧ Aside0 (l0.take i = l1.take i) ∧ Aside0 (Below w.heap.size w wr)) (fun v5 _ => l0.length - (intOf v5).toNat)
    case atStart => exact ⟨0, rfl, Nat.zero_le _, ⟨by simp⟩, ⟨Below.refl _ _⟩⟩
    case round =>
      obtain ⟨i, rfl, hi, HT, HB⟩ := hrel
      by_cases hlt : i < l0.length
      · have hlt1 : i < l1.length := by rw [← HL.out]; exact hlt
        obtain ⟨ad0, e0, x0, x1, x2, x3⟩ := at_Piece HR0.out i hlt
        obtain ⟨ad1, e1, y0, y1, y2, y3⟩ := at_Piece HR1.out i hlt1
        subst e0 e1
        replace x0 := pw_cell_below HB.out x0
        replace x1 := pw_cell_below HB.out x1
        replace x2 := pw_cell_below HB.out x2
        replace x3 := pw_cell_below HB.out x3
        replace y0 := pw_cell_below HB.out y0
        replace y1 := pw_cell_below HB.out y1
        replace y2 := pw_cell_below HB.out y2
        replace y3 := pw_cell_below HB.out y3
        obtain ⟨p, hp⟩ : ∃ p, p = l0.getD i default := ⟨_, rfl⟩
        obtain ⟨q, hq⟩ : ∃ q, q = l1.getD i default := ⟨_, rfl⟩
        rw [← hp] at x0 x1 x2 x3
        rw [← hq] at y0 y1 y2 y3
        have HP := Aside0.mk hp
        have HQ := Aside0.mk hq
        clear hp hq
        go_wp2
        go_still_tail 8, (by kernel_rfl)
        change wpList _ _ _ _ _ wr.drew
        have HD := Aside0.mk (below_drew HB.out)
        generalize wr.drew = w2 at HD ⊢
        clear x0 x1 x2 x3 y0 y1 y2 y3
        by_cases heq : p = q
        · have hd : decide (p = q) = true := decide_eq_true heq
          have HE := Aside0.mk heq
          clear heq
          go_wp2_with (go_at_call 54; refine (eqPiece_any _ _ _).mono ?_; rintro e w3 ⟨rfl, hb3⟩)
          go_roundw
          case rel => exact ⟨i + 1, by go_num, by omega, ⟨take_step hlt hlt1 HT.out HP.out HQ.out HE.out⟩, ⟨below_more HD.out hb3⟩⟩
          case measure => simp [intOf]; omega
        · have hd : decide (p = q) = false := decide_eq_false heq
          have HE := Aside0.mk heq
          clear heq
          go_wp2_with (go_at_call 54; refine (eqPiece_any _ _ _).mono ?_; rintro e w3 ⟨rfl, hb3⟩)
          go_ret
          exact ⟨by rw [decide_eq_false (ne_of_getD HP.out HQ.out HE.out)]; rfl, below_more HD.out hb3⟩
      · go_wp2
        go_ret
        exact ⟨by rw [decide_eq_true (take_all HT.out (by omega) (by have := HL.out; omega))]; rfl, HB.out⟩
  · have hb : ((l0.length : Int) != (l1.length : Int)) = true := bne_iff_ne.2 (by omega)
    have hb2 : (l0.length != l1.length) = true := by simpa using hl
    have HL := Aside0.mk hl
    clear hl
    go_enter Tryd.func29, Tryd.ntmps29
    go_wp2
    go_ret
    exact ⟨by rw [decide_eq_false (fun h => HL.out (by rw [h]))]; rfl, Below.refl _ _⟩
set_option maxRecDepth 100000 in
theorem eqEndS_any (A0 : Option Addr) (c0 : Nat) (l0 : List EndT) (A1 : Option Addr) (c1 : Nat) (l1 : List EndT) (w : World)
    (hr0 : Kd.C kEnd w A0 l0.length l0) (hr1 : Kd.C kEnd w A1 l1.length l1) :
    Calls Tryd.prog 78 #[.slice A0 l0.length c0, .slice A1 l1.length c1] w
      fun e w' => e = .returned (.bool (decide (l0 = l1))) ∧ Below w.heap.size w w' := by
  have hm0 := hr0.2.1
  have hm1 := hr1.2.1
  have HR0 := Aside0.mk hr0
  have HR1 := Aside0.mk hr1
  clear hr0 hr1
  by_cases hl : l0.length = l1.length
  · have hb : ((l0.length : Int) != (l1.length : Int)) = false := by simp [hl]
    have hb2 : (l0.length != l1.length) = false := by simp [hl]
    have HL := Aside0.mk hl
    clear hl
    go_enter Tryd.func78, Tryd.ntmps78
    go_wp2
    clear hb hb2
    go_loopw [5] (fun v5 wr => ∃ i : Nat, v5 = .int .i64 i ∧ i ≤ l0.length ∧ Aside0 (l0.take i = l1.take i) ∧ Aside0 (Below w.heap.size w wr)) (fun v5 _ => l0.length - (intOf v5).toNat)
    case atStart => exact ⟨0, rfl, Nat.zero_le _, ⟨by simp⟩, ⟨Below.refl _ _⟩⟩
    case round =>
      obtain ⟨i, rfl, hi, HT, HB⟩ := hrel
      by_cases hlt : i < l0.length
      · have hlt1 : i < l1.length := by rw [← HL.out]; exact hlt
        obtain ⟨ad0, e0, x0, x1⟩ := at_End HR0.out i hlt
        obtain ⟨ad1, e1, y0, y1⟩ := at_End HR1.out i hlt1
        subst e0 e1
        replace x0 := pw_cell_below HB.out x0
        replace x1 := pw_cell_below HB.out x1
        replace y0 := pw_cell_below HB.out y0
        replace y1 := pw_cell_below HB.out y1
        obtain ⟨p, hp⟩ : ∃ p, p = l0.getD i default := ⟨_, rfl⟩
        obtain ⟨q, hq⟩ : ∃ q, q = l1.getD i default := ⟨_, rfl⟩
        rw [← hp] at x0 x1
        rw [← hq] at y0 y1
        have HP := Aside0.mk hp
        have HQ := Aside0.mk hq
        clear hp hq
        go_wp2
        go_still_tail 8, (by kernel_rfl)
        change wpList _ _ _ _ _ wr.drew
        have HD := Aside0.mk (below_drew HB.out)
        generalize wr.drew = w2 at HD ⊢
        clear x0 x1 y0 y1
        by_cases heq : p = q
        · have hd : decide (p = q) = true := decide_eq_true heq
          have HE := Aside0.mk heq
          clear heq
          go_wp2_with (go_at_call 93; refine (eqEnd_any _ _ _).mono ?_; rintro e w3 ⟨rfl, hb3⟩)
          go_roundw
          case rel => exact ⟨i + 1, by go_num, by omega, ⟨take_step hlt hlt1 HT.out HP.out HQ.out HE.out⟩, ⟨below_more HD.out hb3⟩⟩
          case measure => simp [intOf]; omega
        · have hd : decide (p = q) = false := decide_eq_false heq
          have HE := Aside0.mk heq
          clear heq
          go_wp2_with (go_at_call 93; refine (eqEnd_any _ _ _).mono ?_; rintro e w3 ⟨rfl, hb3⟩)
          go_ret
          exact ⟨by rw [decide_eq_false (ne_of_getD HP.out HQ.out HE.out)]; rfl, below_more HD.out hb3⟩
      · go_wp2
        go_ret
        exact ⟨by rw [decide_eq_true (take_all HT.out (by omega) (by have := HL.out; omega))]; rfl, HB.out⟩
  · have hb : ((l0.length : Int) != (l1.length : Int)) = true := bne_iff_ne.2 (by omega)
    have hb2 : (l0.length != l1.length) = true := by simpa using hl
    have HL := Aside0.mk hl
    clear hl
    go_enter Tryd.func78, Tryd.ntmps78
    go_wp2
    go_ret
    exact ⟨by rw [decide_eq_false (fun h => HL.out (by rw [h]))]; rfl, Below.refl _ _⟩
theorem eqJoint_any (p q : JointT) (A0 : Option Addr) (c0 : Nat) (A1 : Option Addr) (c1 : Nat) (w : World) (hr0 : Kd.C kEnd w A0 p.ends.length p.ends) (hr1 : Kd.C kEnd w A1 q.ends.length q.ends) :
    Calls Tryd.prog 55 #[.agg #[.int .i64 p.kind, .string p.name, .slice A0 p.ends.length c0], .agg #[.int .i64 q.kind, .string q.name, .slice A1 q.ends.length c1]] w
      fun e w' => e = .returned (.bool (decide (p = q))) ∧ Below w.heap.size w w' := by
  have HR0 := Aside0.mk hr0
  have HR1 := Aside0.mk hr1
  clear hr0 hr1
  go_enter Tryd.func55, Tryd.ntmps55
  go_wp2_with (go_at_call 78; refine (eqEndS_any A0 c0 p.ends A1 c1 q.ends _ (Kd.C_below HR0.out (below_two _ _ _)) (Kd.C_below HR1.out (below_two _ _ _))).mono ?_; rintro e w3 ⟨rfl, hb3⟩)
  all_goals
    go_ret
    refine ⟨?_, by first | exact below_two _ _ _ | exact below_more (below_two _ _ _) ‹_›⟩
    rw [show decide (p = q) = decide (p.kind = q.kind ∧ p.name = q.name ∧ p.ends = q.ends) from decide_eq_decide.2 JointT.ext_iff.symm]
    simp_all [toList_inj]
set_option maxRecDepth 100000 in
theorem eqJointS_any (A0 : Option Addr) (c0 : Nat) (l0 : List JointT) (A1 : Option Addr) (c1 : Nat) (l1 : List JointT) (w : World)
    (hr0 : Kd.C (kJoint 56) w A0 l0.length l0) (hr1 : Kd.C (kJoint 56) w A1 l1.length l1) :
    Calls Tryd.prog 30 #[.slice A0 l0.length c0, .slice A1 l1.length c1] w
      fun e w' => e = .returned (.bool (decide (l0 = l1))) ∧ Below w.heap.size w w' := by
  have hm0 := hr0.2.1
  have hm1 := hr1.2.1
  have HR0 := Aside0.mk hr0
  have HR1 := Aside0.mk hr1
  clear hr0 hr1
  by_cases hl : l0.length = l1.length
  · have hb : ((l0.length : Int) != (l1.length : Int)) = false := by simp [hl]
    have hb2 : (l0.length != l1.length) = false := by simp [hl]
    have HL := Aside0.mk hl
    clear hl
    go_enter Tryd.func30, Tryd.ntmps30
    go_wp2
    clear hb hb2
    go_loopw [5] (fun v5 wr => ∃ i : Nat, v5 = .int .i64 i ∧ i ≤ l0.length ∧ Aside0 (l0.take i = l1.take i) ∧ Aside0 (Below w.heap.size w wr)) (fun v5 _ => l0.length - (intOf v5).toNat)
    case atStart => exact ⟨0, rfl, Nat.zero_le _, ⟨by simp⟩, ⟨Below.refl _ _⟩⟩
    case round =>
      obtain ⟨i, rfl, hi, HT, HB⟩ := hrel
      by_cases hlt : i < l0.length
      · have hlt1 : i < l1.length := by rw [← HL.out]; exact hlt
        obtain ⟨ad0, B0, k0, e0, x0, x1, x2, m0, g0⟩ := at_Joint HR0.out i hlt
        obtain ⟨ad1, B1, k1, e1, y0, y1, y2, m1, g1⟩ := at_Joint HR1.out i hlt1
        subst e0 e1
        replace x0 := pw_cell_below HB.out x0
        replace x1 := pw_cell_below HB.out x1
        replace x2 := pw_cell_below HB.out x2
        replace y0 := pw_cell_below HB.out y0
        replace y1 := pw_cell_below HB.out y1
        replace y2 := pw_cell_below HB.out y2
        have G0 := Aside0.mk g0
        have G1 := Aside0.mk g1
        clear g0 g1 m0 m1
        obtain ⟨p, hp⟩ : ∃ p, p = l0.getD i default := ⟨_, rfl⟩
        obtain ⟨q, hq⟩ : ∃ q, q = l1.getD i default := ⟨_, rfl⟩
        rw [← hp] at x0 x1 x2
        rw [← hq] at y0 y1 y2
        have HP := Aside0.mk hp
        have HQ := Aside0.mk hq
        clear hp hq
        go_wp2
        go_still_tail 8, (by kernel_rfl)
        change wpList _ _ _ _ _ wr.drew
        have HD := Aside0.mk (below_drew HB.out)
        generalize wr.drew = w2 at HD ⊢
        clear x0 x1 x2 y0 y1 y2
        rw [← HP.out] at G0
        rw [← HQ.out] at G1
        have F0 := Aside0.mk (Kd.C_below G0.out HD.out)
        have F1 := Aside0.mk (Kd.C_below G1.out HD.out)
        clear G0 G1
        by_cases heq : p = q
        · have hd : decide (p = q) = true := decide_eq_true heq
          have HE := Aside0.mk heq
          clear heq
          go_wp2_with (go_at_call 55; refine (eqJoint_any p q B0 k0 B1 k1 _ F0.out F1.out).mono ?_; rintro e w3 ⟨rfl, hb3⟩)
          go_roundw
          case rel => exact ⟨i + 1, by go_num, by omega, ⟨take_step hlt hlt1 HT.out HP.out HQ.out HE.out⟩, ⟨below_more HD.out hb3⟩⟩
          case measure => simp [intOf]; omega
        · have hd : decide (p = q) = false := decide_eq_false heq
          have HE := Aside0.mk heq
          clear heq
          go_wp2_with (go_at_call 55; refine (eqJoint_any p q B0 k0 B1 k1 _ F0.out F1.out).mono ?_; rintro e w3 ⟨rfl, hb3⟩)
          go_ret
          exact ⟨by rw [decide_eq_false (ne_of_getD HP.out HQ.out HE.out)]; rfl, below_more HD.out hb3⟩
      · go_wp2
        go_ret
        exact ⟨by rw [decide_eq_true (take_all HT.out (by omega) (by have := HL.out; omega))]; rfl, HB.out⟩
  · have hb : ((l0.length : Int) != (l1.length : Int)) = true := bne_iff_ne.2 (by omega)
    have hb2 : (l0.length != l1.length) = true := by simpa using hl
    have HL := Aside0.mk hl
    clear hl
    go_enter Tryd.func30, Tryd.ntmps30
    go_wp2
    go_ret
    exact ⟨by rw [decide_eq_false (fun h => HL.out (by rw [h]))]; rfl, Below.refl _ _⟩
theorem eqNet_any (n m : NetT) (u v : (Option Addr × Nat) × (Option Addr × Nat)) (w : World) (hn : RdNet 56 w u n) (hm : RdNet 56 w v m) :
    Calls Tryd.prog 10 #[.agg #[.slice u.1.1 n.pieces.length u.1.2, .slice u.2.1 n.joints.length u.2.2], .agg #[.slice v.1.1 m.pieces.length v.1.2, .slice v.2.1 m.joints.length v.2.2]] w
      fun e w' => e = .returned (.bool (decide (n = m))) ∧ Below w.heap.size w w' := by
  have P0 := Aside0.mk hn.1.1
  have P1 := Aside0.mk hm.1.1
  have J0 := Aside0.mk hn.2.1
  have J1 := Aside0.mk hm.2.1
  clear hn hm
  obtain ⟨⟨A0, c0⟩, ⟨A1, c1⟩⟩ := u
  obtain ⟨⟨B0, d0⟩, ⟨B1, d1⟩⟩ := v
  by_cases hp : n.pieces = m.pieces
  · have hd : decide (n.pieces = m.pieces) = true := decide_eq_true hp
    have HP := Aside0.mk hp
    clear hp
    go_enter Tryd.func10, Tryd.ntmps10
    go_wp2_with (first | (go_at_call 29; refine (eqPieceS_any _ _ _ _ _ _ _ (Kd.C_below P0.out (below_two _ _ _)) (Kd.C_below P1.out (below_two _ _ _))).mono ?_; rintro e w3 ⟨rfl, hb3⟩; obtain ⟨hc3, hf3⟩ := bcell hb3; have H3 := Aside0.mk (below_more (below_two w _ _) hb3); clear hb3) | (go_at_call 30; refine (eqJointS_any _ _ _ _ _ _ _ (Kd.C_below J0.out H3.out) (Kd.C_below J1.out H3.out)).mono ?_; rintro e w4 ⟨rfl, hb4⟩))
    all_goals
      go_ret
      refine ⟨?_, below_more H3.out ‹_›⟩
      rw [show decide (n = m) = decide (n.pieces = m.pieces ∧ n.joints = m.joints) from decide_eq_decide.2 NetT.ext_iff.symm]
      have hp := HP.out
      simp_all
  · have hd : decide (n.pieces = m.pieces) = false := decide_eq_false hp
    have HP := Aside0.mk hp
    clear hp
    go_enter Tryd.func10, Tryd.ntmps10
    go_wp2_with (go_at_call 29; refine (eqPieceS_any _ _ _ _ _ _ _ (Kd.C_below P0.out (below_two _ _ _)) (Kd.C_below P1.out (below_two _ _ _))).mono ?_; rintro e w3 ⟨rfl, hb3⟩)
    go_ret
    refine ⟨?_, below_more (below_two w _ _) hb3⟩
    rw [show decide (n = m) = decide (n.pieces = m.pieces ∧ n.joints = m.joints) from decide_eq_decide.2 NetT.ext_iff.symm]
    have hp := HP.out
    simp_all
end Go.Proofs.YtckcffjnffcjcaaDoor
set_option linter.unusedVariables false
set_option linter.unusedSimpArgs false
namespace Go.Proofs.YtckcffjnffcjcaaDoor
open Go.RowKit Go.Proofs.YtckcffjnffcjcaaDoorW.PrintWords
/-- What is left, or -1. -/
def cutZ (x : Int) : Int := if x < 0 then -1 else x
theorem cutZ_neg {x : Int} (h : x < 0) : cutZ x = -1 := if_pos h
theorem cutZ_pos {x : Int} (h : 0 ≤ x) : cutZ x = x := if_neg (by omega)
def wName (p : PieceT) : Nat := p.name.size
def wPieces (l : List PieceT) : Nat := l.length + (l.map wName).sum
def wJoint (j : JointT) : Nat := j.name.size + j.ends.length
def wJoints (l : List JointT) : Nat := l.length + (l.map wJoint).sum
def wNet (n : NetT) : Nat := wPieces n.pieces + wJoints n.joints
theorem sum_take_le {α : Type} (f : α → Nat) : ∀ (l : List α) (i : Nat), ((l.take i).map f).sum ≤ (l.map f).sum
  | [], i => by simp
  | a :: l, 0 => by simp
  | a :: l, i + 1 => by simp only [List.take_succ_cons, List.map_cons, List.sum_cons]; have := sum_take_le f l i; omega
theorem sum_take_succ {α : Type} [Inhabited α] (f : α → Nat) (l : List α) (i : Nat) (h : i < l.length) : ((l.take (i + 1)).map f).sum = ((l.take i).map f).sum + f (l.getD i default) := by
  rw [take_getD l i h]; simp
theorem szEndS_any (A : Option Addr) (c l : Nat) (left : Int) (w : World) (h0 : 0 ≤ left) (h1 : left ≤ 1048576) (hm : l ≤ 9223372036854775807) :
    Calls Tryd.prog 74 #[.slice A l c, .int .i64 left] w fun e w' => e = .returned (.int .i64 (cutZ (left - l))) ∧ w = w' := by
  by_cases h : left - (l : Int) < 0
  · go_enter Tryd.func74, Tryd.ntmps74
    go_wp2
    go_ret
    exact ⟨by rw [cutZ_neg h]; rfl, rfl⟩
  · go_enter Tryd.func74, Tryd.ntmps74
    go_wp2
    go_ret
    exact ⟨by rw [cutZ_pos (by omega)]; rfl, rfl⟩
theorem szPiece_any (p : PieceT) (left : Int) (w : World) (h0 : 0 ≤ left) (h1 : left ≤ 1048576) (hm : p.name.size ≤ 9223372036854775807) :
    Calls Tryd.prog 48 #[.agg #[.string p.name, .int .i64 p.len, .int .i64 p.speed, .int .i64 p.brake], .int .i64 left] w
      fun e w' => e = .returned (.int .i64 (cutZ (left - wName p))) ∧ Below w.heap.size w w' := by
  by_cases h : left - (p.name.size : Int) < 0
  · go_enter Tryd.func48, Tryd.ntmps48
    go_wp2
    go_ret
    exact ⟨by rw [cutZ_neg (by unfold wName; exact h)]; rfl, below_alloc (Below.refl _ _) _⟩
  · go_enter Tryd.func48, Tryd.ntmps48
    go_wp2
    go_ret
    exact ⟨by rw [cutZ_pos (by unfold wName; omega)]; rfl, below_alloc (Below.refl _ _) _⟩
theorem szJoint_any (j : JointT) (A : Option Addr) (c : Nat) (left : Int) (w : World) (h0 : 0 ≤ left) (h1 : left ≤ 1048576) (hm : j.name.size ≤ 9223372036854775807) (hl : j.ends.length ≤ 9223372036854775807) :
    Calls Tryd.prog 49 #[.agg #[.int .i64 j.kind, .string j.name, .slice A j.ends.length c], .int .i64 left] w
      fun e w' => e = .returned (.int .i64 (cutZ (left - wJoint j))) ∧ Below w.heap.size w w' := by
  by_cases h : left - (j.name.size : Int) < 0
  · go_enter Tryd.func49, Tryd.ntmps49
    go_wp2
    go_ret
    exact ⟨by rw [cutZ_neg (by unfold wJoint; omega)]; rfl, below_alloc (Below.refl _ _) _⟩
  · by_cases h2 : left - (j.name.size : Int) - (j.ends.length : Int) < 0
    · have e1 := Aside0.mk (cutZ_neg h2)
      have e2 := Aside0.mk (cutZ_neg (x := left - wJoint j) (by unfold wJoint; omega))
      go_enter Tryd.func49, Tryd.ntmps49
      go_wp2_with (go_at_call 74; refine (szEndS_any _ _ _ _ _ (by omega) (by omega) hl).mono ?_; rintro e w1 ⟨rfl, rfl⟩; rw [e1.out])
      go_ret
      exact ⟨by rw [e2.out]; rfl, below_alloc (Below.refl _ _) _⟩
    · have e1 := Aside0.mk (cutZ_pos (x := left - (j.name.size : Int) - (j.ends.length : Int)) (by omega))
      have e2 := Aside0.mk (cutZ_pos (x := left - wJoint j) (by unfold wJoint; omega))
      go_enter Tryd.func49, Tryd.ntmps49
      go_wp2_with (go_at_call 74; refine (szEndS_any _ _ _ _ _ (by omega) (by omega) hl).mono ?_; rintro e w1 ⟨rfl, rfl⟩; rw [e1.out])
      go_ret
      exact ⟨by rw [e2.out]; unfold wJoint; exact congrArg (fun z => Ending.returned (Value.int .i64 z)) (by omega), below_alloc (Below.refl _ _) _⟩
theorem szPieceS_any (A : Option Addr) (c : Nat) (l : List PieceT) (left : Int) (w : World) (h0 : 0 ≤ left) (h1 : left ≤ 1048576) (hr : Kd.C kPiece w A l.length l) (hg : ∀ x ∈ l, x.name.size ≤ 9223372036854775807) :
    Calls Tryd.prog 19 #[.slice A l.length c, .int .i64 left] w
      fun e w' => e = .returned (.int .i64 (cutZ (left - wPieces l))) ∧ Below w.heap.size w w' := by
  have hm := hr.2.1
  have HR := Aside0.mk hr
  have HG := Aside0.mk hg
  clear hr hg
  by_cases h : left - (l.length : Int) < 0
  · have e2 := Aside0.mk (cutZ_neg (x := left - wPieces l) (by unfold wPieces; omega))
    go_enter Tryd.func19, Tryd.ntmps19
    go_wp2
    go_ret
    exact ⟨by rw [e2.out]; rfl, Below.refl _ _⟩
  · go_enter Tryd.func19, Tryd.ntmps19
    go_wp2
    go_loopw [1, 5] (fun v1 v5 wr => ∃ (i : Nat) (y : Int), v5 = .int .i64 i ∧ i ≤ l.length ∧ v1 = .int .i64 y ∧ 0 ≤ y ∧ Aside0 (y = left - l.length - ((l.take i).map wName).sum) ∧ Aside0 (Below w.heap.size w wr)) (fun _ v5 _ => l.length - (intOf v5).toNat)
    case atStart => exact ⟨0, _, rfl, Nat.zero_le _, rfl, by omega, ⟨by simp⟩, ⟨Below.refl _ _⟩⟩
    case round =>
      obtain ⟨i, y, rfl, hi, rfl, hy, HT, HB⟩ := hrel
      have hy1 : y ≤ 1048576 := by have := HT.out; omega
      by_cases hlt : i < l.length
      · obtain ⟨ad0, e0, x0, x1, x2, x3⟩ := at_Piece HR.out i hlt
        subst e0
        have S1 := Aside0.mk (sum_take_succ wName l i hlt)
        have S2 := Aside0.mk (sum_take_le wName l (i + 1))
        have HX := Aside0.mk (HG.out _ (getD_mem l i hlt))
        obtain ⟨p, hp⟩ : ∃ p, p = l.getD i default := ⟨_, rfl⟩
        rw [← hp] at x0 x1 x2 S1 HX
        rw [← hp] at x3
        clear hp
        replace x0 := pw_cell_below HB.out x0
        replace x1 := pw_cell_below HB.out x1
        replace x2 := pw_cell_below HB.out x2
        replace x3 := pw_cell_below HB.out x3
        by_cases h2 : y - (wName p : Int) < 0
        · have e1 := Aside0.mk (cutZ_neg h2)
          have e2 := Aside0.mk (cutZ_neg (x := left - wPieces l) (by unfold wPieces; have := HT.out; have := S1.out; have := S2.out; omega))
          go_wp2_with (go_at_call 48; refine (szPiece_any _ _ _ (by omega) (by omega) HX.out).mono ?_; rintro e w3 ⟨rfl, hb3⟩; rw [e1.out])
          go_ret
          exact ⟨by rw [e2.out]; rfl, below_more HB.out hb3⟩
        · have e1 := Aside0.mk (cutZ_pos (x := y - wName p) (by omega))
          obtain ⟨z, hz⟩ : ∃ z, z = y - (wName p : Int) := ⟨_, rfl⟩
          have hz0 : 0 ≤ z := by omega
          rw [← hz] at e1
          have HZ := Aside0.mk hz
          rw [hz] at e1
          rw [← hz] at e1
          clear hz
          go_wp2_with (go_at_call 48; refine (szPiece_any _ _ _ (by omega) (by omega) HX.out).mono ?_; rintro e w3 ⟨rfl, hb3⟩; rw [← HZ.out, e1.out])
          go_roundw
          case rel => exact ⟨i + 1, z, by go_num, by omega, rfl, hz0, ⟨by have := HT.out; have := S1.out; have := HZ.out; omega⟩, ⟨below_more HB.out hb3⟩⟩
          case measure => simp [intOf]; omega
      · have e2 := Aside0.mk (cutZ_pos (x := left - wPieces l) (by unfold wPieces; have := HT.out; rw [List.take_of_length_le (by omega)] at this; omega))
        go_wp2
        go_ret
        exact ⟨by rw [e2.out]; unfold wPieces; have := HT.out; rw [List.take_of_length_le (by omega)] at this; exact congrArg (fun z => Ending.returned (Value.int .i64 z)) (by omega), HB.out⟩
theorem szJointS_any (A : Option Addr) (c : Nat) (l : List JointT) (left : Int) (w : World) (h0 : 0 ≤ left) (h1 : left ≤ 1048576) (hr : Kd.C (kJoint 134) w A l.length l) (hg : ∀ x ∈ l, x.name.size ≤ 9223372036854775807 ∧ x.ends.length ≤ 9223372036854775807) :
    Calls Tryd.prog 20 #[.slice A l.length c, .int .i64 left] w
      fun e w' => e = .returned (.int .i64 (cutZ (left - wJoints l))) ∧ Below w.heap.size w w' := by
  have hm := hr.2.1
  have HR := Aside0.mk hr
  have HG := Aside0.mk hg
  clear hr hg
  by_cases h : left - (l.length : Int) < 0
  · have e2 := Aside0.mk (cutZ_neg (x := left - wJoints l) (by unfold wJoints; omega))
    go_enter Tryd.func20, Tryd.ntmps20
    go_wp2
    go_ret
    exact ⟨by rw [e2.out]; rfl, Below.refl _ _⟩
  · go_enter Tryd.func20, Tryd.ntmps20
    go_wp2
    go_loopw [1, 5] (fun v1 v5 wr => ∃ (i : Nat) (y : Int), v5 = .int .i64 i ∧ i ≤ l.length ∧ v1 = .int .i64 y ∧ 0 ≤ y ∧ Aside0 (y = left - l.length - ((l.take i).map wJoint).sum) ∧ Aside0 (Below w.heap.size w wr)) (fun _ v5 _ => l.length - (intOf v5).toNat)
    case atStart => exact ⟨0, _, rfl, Nat.zero_le _, rfl, by omega, ⟨by simp⟩, ⟨Below.refl _ _⟩⟩
    case round =>
      obtain ⟨i, y, rfl, hi, rfl, hy, HT, HB⟩ := hrel
      have hy1 : y ≤ 1048576 := by have := HT.out; omega
      by_cases hlt : i < l.length
      · obtain ⟨ad0, B0, k0, e0, x0, x1, x2, m0, g0⟩ := at_Joint HR.out i hlt
        subst e0
        have S1 := Aside0.mk (sum_take_succ wJoint l i hlt)
        have S2 := Aside0.mk (sum_take_le wJoint l (i + 1))
        have HX := Aside0.mk (HG.out _ (getD_mem l i hlt))
        obtain ⟨p, hp⟩ : ∃ p, p = l.getD i default := ⟨_, rfl⟩
        rw [← hp] at x0 x1 x2 S1 HX
        clear m0 g0
        clear hp
        replace x0 := pw_cell_below HB.out x0
        replace x1 := pw_cell_below HB.out x1
        replace x2 := pw_cell_below HB.out x2
        by_cases h2 : y - (wJoint p : Int) < 0
        · have e1 := Aside0.mk (cutZ_neg h2)
          have e2 := Aside0.mk (cutZ_neg (x := left - wJoints l) (by unfold wJoints; have := HT.out; have := S1.out; have := S2.out; omega))
          go_wp2_with (go_at_call 49; refine (szJoint_any _ _ _ _ _ (by omega) (by omega) HX.out.1 HX.out.2).mono ?_; rintro e w3 ⟨rfl, hb3⟩; rw [e1.out])
          go_ret
          exact ⟨by rw [e2.out]; rfl, below_more HB.out hb3⟩
        · have e1 := Aside0.mk (cutZ_pos (x := y - wJoint p) (by omega))
          obtain ⟨z, hz⟩ : ∃ z, z = y - (wJoint p : Int) := ⟨_, rfl⟩
          have hz0 : 0 ≤ z := by omega
          rw [← hz] at e1
          have HZ := Aside0.mk hz
          rw [hz] at e1
          rw [← hz] at e1
          clear hz
          go_wp2_with (go_at_call 49; refine (szJoint_any _ _ _ _ _ (by omega) (by omega) HX.out.1 HX.out.2).mono ?_; rintro e w3 ⟨rfl, hb3⟩; rw [← HZ.out, e1.out])
          go_roundw
          case rel => exact ⟨i + 1, z, by go_num, by omega, rfl, hz0, ⟨by have := HT.out; have := S1.out; have := HZ.out; omega⟩, ⟨below_more HB.out hb3⟩⟩
          case measure => simp [intOf]; omega
      · have e2 := Aside0.mk (cutZ_pos (x := left - wJoints l) (by unfold wJoints; have := HT.out; rw [List.take_of_length_le (by omega)] at this; omega))
        go_wp2
        go_ret
        exact ⟨by rw [e2.out]; unfold wJoints; have := HT.out; rw [List.take_of_length_le (by omega)] at this; exact congrArg (fun z => Ending.returned (Value.int .i64 z)) (by omega), HB.out⟩
theorem szNet_any (n : NetT) (u : (Option Addr × Nat) × (Option Addr × Nat)) (left : Int) (w : World) (h0 : 0 ≤ left) (h1 : left ≤ 1048576) (hr : RdNet 134 w u n)
    (hp : ∀ x ∈ n.pieces, x.name.size ≤ 9223372036854775807) (hj : ∀ x ∈ n.joints, x.name.size ≤ 9223372036854775807 ∧ x.ends.length ≤ 9223372036854775807) :
    Calls Tryd.prog 6 #[.agg #[.slice u.1.1 n.pieces.length u.1.2, .slice u.2.1 n.joints.length u.2.2], .int .i64 left] w
      fun e w' => e = .returned (.int .i64 (cutZ (left - wNet n))) ∧ Below w.heap.size w w' := by
  have P0 := Aside0.mk hr.1.1
  have J0 := Aside0.mk hr.2.1
  have HP := Aside0.mk hp
  have HJ := Aside0.mk hj
  clear hr hp hj
  obtain ⟨⟨A0, c0⟩, ⟨A1, c1⟩⟩ := u
  by_cases h : left - (wPieces n.pieces : Int) < 0
  · have e1 := Aside0.mk (cutZ_neg h)
    have e2 := Aside0.mk (cutZ_neg (x := left - wNet n) (by unfold wNet; omega))
    go_enter Tryd.func6, Tryd.ntmps6
    go_wp2_with (go_at_call 19; refine (szPieceS_any _ _ _ _ _ h0 h1 (Kd.C_below P0.out (below_alloc (Below.refl _ _) _)) HP.out).mono ?_; rintro e w3 ⟨rfl, hb3⟩; rw [e1.out])
    go_ret
    exact ⟨by rw [e2.out]; rfl, below_more (below_alloc (Below.refl _ _) _) hb3⟩
  · have e1 := Aside0.mk (cutZ_pos (x := left - wPieces n.pieces) (by omega))
    obtain ⟨z, hz⟩ : ∃ z, z = left - (wPieces n.pieces : Int) := ⟨_, rfl⟩
    have hz0 : 0 ≤ z := by omega
    have hz1 : z ≤ 1048576 := by omega
    rw [← hz] at e1
    have HZ := Aside0.mk hz
    clear hz
    by_cases h2 : z - (wJoints n.joints : Int) < 0
    · have e3 := Aside0.mk (cutZ_neg h2)
      have e2 := Aside0.mk (cutZ_neg (x := left - wNet n) (by unfold wNet; have := HZ.out; omega))
      go_enter Tryd.func6, Tryd.ntmps6
      go_wp2_with (first | (go_at_call 19; refine (szPieceS_any _ _ _ _ _ h0 h1 (Kd.C_below P0.out (below_alloc (Below.refl _ _) _)) HP.out).mono ?_; rintro e w3 ⟨rfl, hb3⟩; rw [← HZ.out, e1.out]; obtain ⟨hc3, hf3⟩ := bcell hb3; have H3 := Aside0.mk (below_more (below_alloc (Below.refl _ _) _) hb3); clear hb3) | (go_at_call 20; refine (szJointS_any _ _ _ _ _ hz0 hz1 (Kd.C_below J0.out H3.out) HJ.out).mono ?_; rintro e w4 ⟨rfl, hb4⟩; rw [e3.out]))
      go_ret
      exact ⟨by rw [e2.out]; rfl, below_more H3.out hb4⟩
    · have e3 := Aside0.mk (cutZ_pos (x := z - wJoints n.joints) (by omega))
      have e2 := Aside0.mk (cutZ_pos (x := left - wNet n) (by unfold wNet; have := HZ.out; omega))
      go_enter Tryd.func6, Tryd.ntmps6
      go_wp2_with (first | (go_at_call 19; refine (szPieceS_any _ _ _ _ _ h0 h1 (Kd.C_below P0.out (below_alloc (Below.refl _ _) _)) HP.out).mono ?_; rintro e w3 ⟨rfl, hb3⟩; rw [← HZ.out, e1.out]; obtain ⟨hc3, hf3⟩ := bcell hb3; have H3 := Aside0.mk (below_more (below_alloc (Below.refl _ _) _) hb3); clear hb3) | (go_at_call 20; refine (szJointS_any _ _ _ _ _ hz0 hz1 (Kd.C_below J0.out H3.out) HJ.out).mono ?_; rintro e w4 ⟨rfl, hb4⟩; rw [e3.out]))
      go_ret
      exact ⟨by rw [e2.out]; unfold wNet; exact congrArg (fun z => Ending.returned (Value.int .i64 z)) (by have := HZ.out; omega), below_more H3.out hb4⟩
end Go.Proofs.YtckcffjnffcjcaaDoor
set_option linter.unusedVariables false
set_option linter.unusedSimpArgs false
namespace Go.Proofs.YtckcffjnffcjcaaDoor
open Go.RowKit Go.Proofs.YtckcffjnffcjcaaDoorW.PrintWords
theorem info56 : (Tryd.prog.info? 56).map (fun i => (i.zero, i.size, i.bytes)) = some (some (.agg #[.int .i64 0, .int .i64 0]), 2, 16) := by kernel_rfl
theorem info49 : (Tryd.prog.info? 49).map (fun i => (i.zero, i.size, i.bytes)) = some (some (.agg #[.string ⟨#[]⟩, .int .i64 0, .int .i64 0, .int .i64 0]), 4, 40) := by kernel_rfl
theorem info53 : (Tryd.prog.info? 53).map (fun i => (i.zero, i.size, i.bytes)) = some (some (.agg #[.int .i64 0, .string ⟨#[]⟩, .slice none 0 0]), 3, 48) := by kernel_rfl
theorem toEnd_any (p : EndT) (w : World) :
    Calls Tryd.prog 88 #[.agg #[.int .i64 p.piece, .int .i64 p.side]] w fun e w' => e = .returned (.agg #[.int .i64 p.piece, .int .i64 p.side]) ∧ Below w.heap.size w w' := by
  go_enter Tryd.func88, Tryd.ntmps88
  go_wp2
  exact bodyPost_ret (v := .agg #[.int .i64 p.piece, .int .i64 p.side]) (by simp [results, Tryd.results88, go_sem]) rfl ⟨rfl, below_alloc (below_alloc (below_alloc (Below.refl _ _) _) _) _⟩
theorem toPiece_any (p : PieceT) (w : World) :
    Calls Tryd.prog 50 #[.agg #[.string p.name, .int .i64 p.len, .int .i64 p.speed, .int .i64 p.brake]] w fun e w' => e = .returned (.agg #[.string p.name, .int .i64 p.len, .int .i64 p.speed, .int .i64 p.brake]) ∧ Below w.heap.size w w' := by
  go_enter Tryd.func50, Tryd.ntmps50
  go_wp2
  exact bodyPost_ret (v := .agg #[.string p.name, .int .i64 p.len, .int .i64 p.speed, .int .i64 p.brake]) (by simp [results, Tryd.results50, go_sem]) rfl ⟨rfl, below_alloc (below_alloc (below_alloc (Below.refl _ _) _) _) _⟩
set_option maxRecDepth 100000 in
theorem toPieceS_any (A : Option Addr) (c : Nat) (l : List PieceT) (w : World) (hr : Kd.C kPiece w A l.length l) (hn : l.length ≤ 1048576) :
    Calls Tryd.prog 23 #[.slice A l.length c] w
      fun e w' => ∃ v, e = .returned v ∧ Kd.R kPiece 49 w' w.heap.size (fun _ => True) v l ∧ Below w.heap.size w w' := by
  have HR := Aside0.mk hr
  clear hr
  go_enter Tryd.func23, Tryd.ntmps23
  go_wp2_with ((with_reducible refine gate_dst (N := 7) rfl ?_); refine Kd.R_make kPiece _ 49 rfl (N := 7) rfl 28 _ _ rfl (l.length : Int) rfl rfl Tryd.underlying28 (.agg #[.string ⟨#[]⟩, .int .i64 0, .int .i64 0, .int .i64 0]) 40 info49 rfl (by decide) (by decide) default (ok := fun _ => True) (okp := fun _ => True) (kPiece_mkM _ _ _ default) (fun _ hk => hk) trivial (by omega) (by simp only [Int.toNat_natCast]; omega) (Below.refl _ _) (Nat.le_refl _) ?_; intro v1 w1 ho hb hg hnew; clear hg hnew; rw [Int.toNat_natCast] at ho)
  go_loopw [4] (fun v4 wr => ∃ i : Nat, v4 = .int .i64 i ∧ i ≤ l.length ∧ Aside0 (Kd.R kPiece 49 wr w.heap.size (fun _ => True) v1 (l.take i ++ List.replicate (l.length - i) default)) ∧ Aside0 (Below w.heap.size w wr)) (fun v4 _ => l.length - (intOf v4).toNat)
  case atStart => exact ⟨0, rfl, Nat.zero_le _, ⟨by simpa using ho⟩, ⟨hb⟩⟩
  case round =>
    clear ho hb
    obtain ⟨i, rfl, hi, HO, HB⟩ := hrel
    by_cases hlt : i < l.length
    · obtain ⟨ad0, e0, x0, x1, x2, x3⟩ := at_Piece HR.out i hlt
      subst e0
      have HS := Aside0.mk (set_fill l i hlt)
      obtain ⟨g, cap, ev, hg1, hg2, _⟩ := Kd.R_form HO.out (by simp; omega)
      have hlen : (l.take i ++ List.replicate (l.length - i) (default : PieceT)).length = l.length := by simp; omega
      rw [hlen] at ev
      subst ev
      clear hlen
      obtain ⟨p, hp⟩ : ∃ p, p = l.getD i default := ⟨_, rfl⟩
      rw [← hp] at x0 x1 x2 x3 HS
      have HPM := Aside0.mk hp
      clear hp
      replace x0 := pw_cell_below HB.out x0
      replace x1 := pw_cell_below HB.out x1
      replace x2 := pw_cell_below HB.out x2
      replace x3 := pw_cell_below HB.out x3
      go_wp2_with (first | (go_at_call 50; refine (toPiece_any _ _).mono ?_; rintro e w3 ⟨rfl, hb3⟩; have H3 := Aside0.mk (Kd.R_below HO.out hb3); have HB3 := Aside0.mk (below_more HB.out hb3); clear hb3) | ((with_reducible refine gate_store (t := 49) (p := 21) rfl ?_); refine store_whole kPiece w.heap.size rfl rfl 49 _ _ rfl 49 i _ p _ default (fun _ => True) (fun k => k ≠ g) rfl (by first | rfl | (simp [kPiece, Kd.iso, Kd.pair, Kd.int, Kd.string, Kd.scalar]; done)) rfl (by kernel_rfl) H3.out hlt (kPiece_mkM _ _ _ p) (fun _ hk => ⟨trivial, hk⟩) HB3.out ?_; intro w5 hR5 hB5 hG5; clear hG5 H3 HB3))
      go_roundw
      case rel => exact ⟨i + 1, by go_num, by omega, ⟨by rw [← HS.out]; exact hR5⟩, ⟨hB5⟩⟩
      case measure => simp [intOf]; omega
    · have e : l.take i ++ List.replicate (l.length - i) default = l := by
        rw [List.take_of_length_le (by omega), show l.length - i = 0 from by omega]; simp
      have HO2 := HO.out
      rw [e] at HO2
      have H2 := Aside0.mk HO2
      clear e HO2
      go_wp2
      go_ret
      exact ⟨v1, rfl, H2.out, HB.out⟩
set_option maxRecDepth 100000 in
theorem toEndS_any (A : Option Addr) (c : Nat) (l : List EndT) (w : World) (hr : Kd.C kEnd w A l.length l) (hn : l.length ≤ 1048576) :
    Calls Tryd.prog 75 #[.slice A l.length c] w
      fun e w' => ∃ v, e = .returned v ∧ Kd.R kEnd 56 w' w.heap.size (fun _ => True) v l ∧ Below w.heap.size w w' := by
  have HR := Aside0.mk hr
  clear hr
  go_enter Tryd.func75, Tryd.ntmps75
  go_wp2_with ((with_reducible refine gate_dst (N := 7) rfl ?_); refine Kd.R_make kEnd _ 56 rfl (N := 7) rfl 51 _ _ rfl (l.length : Int) rfl rfl Tryd.underlying51 (.agg #[.int .i64 0, .int .i64 0]) 16 info56 rfl (by decide) (by decide) default (ok := fun _ => True) (okp := fun _ => True) (kEnd_mkM _ _ _ default) (fun _ hk => hk) trivial (by omega) (by simp only [Int.toNat_natCast]; omega) (Below.refl _ _) (Nat.le_refl _) ?_; intro v1 w1 ho hb hg hnew; clear hg hnew; rw [Int.toNat_natCast] at ho)
  go_loopw [4] (fun v4 wr => ∃ i : Nat, v4 = .int .i64 i ∧ i ≤ l.length ∧ Aside0 (Kd.R kEnd 56 wr w.heap.size (fun _ => True) v1 (l.take i ++ List.replicate (l.length - i) default)) ∧ Aside0 (Below w.heap.size w wr)) (fun v4 _ => l.length - (intOf v4).toNat)
  case atStart => exact ⟨0, rfl, Nat.zero_le _, ⟨by simpa using ho⟩, ⟨hb⟩⟩
  case round =>
    clear ho hb
    obtain ⟨i, rfl, hi, HO, HB⟩ := hrel
    by_cases hlt : i < l.length
    · obtain ⟨ad0, e0, x0, x1⟩ := at_End HR.out i hlt
      subst e0
      have HS := Aside0.mk (set_fill l i hlt)
      obtain ⟨g, cap, ev, hg1, hg2, _⟩ := Kd.R_form HO.out (by simp; omega)
      have hlen : (l.take i ++ List.replicate (l.length - i) (default : EndT)).length = l.length := by simp; omega
      rw [hlen] at ev
      subst ev
      clear hlen
      obtain ⟨p, hp⟩ : ∃ p, p = l.getD i default := ⟨_, rfl⟩
      rw [← hp] at x0 x1 HS
      have HPM := Aside0.mk hp
      clear hp
      replace x0 := pw_cell_below HB.out x0
      replace x1 := pw_cell_below HB.out x1
      go_wp2_with (first | (go_at_call 88; refine (toEnd_any _ _).mono ?_; rintro e w3 ⟨rfl, hb3⟩; have H3 := Aside0.mk (Kd.R_below HO.out hb3); have HB3 := Aside0.mk (below_more HB.out hb3); clear hb3) | ((with_reducible refine gate_store (t := 56) (p := 21) rfl ?_); refine store_whole kEnd w.heap.size rfl rfl 56 _ _ rfl 56 i _ p _ default (fun _ => True) (fun k => k ≠ g) rfl (by first | rfl | (simp [kEnd, Kd.iso, Kd.pair, Kd.int, Kd.string, Kd.scalar]; done)) rfl (by kernel_rfl) H3.out hlt (kEnd_mkM _ _ _ p) (fun _ hk => ⟨trivial, hk⟩) HB3.out ?_; intro w5 hR5 hB5 hG5; clear hG5 H3 HB3))
      go_roundw
      case rel => exact ⟨i + 1, by go_num, by omega, ⟨by rw [← HS.out]; exact hR5⟩, ⟨hB5⟩⟩
      case measure => simp [intOf]; omega
    · have e : l.take i ++ List.replicate (l.length - i) default = l := by
        rw [List.take_of_length_le (by omega), show l.length - i = 0 from by omega]; simp
      have HO2 := HO.out
      rw [e] at HO2
      have H2 := Aside0.mk HO2
      clear e HO2
      go_wp2
      go_ret
      exact ⟨v1, rfl, H2.out, HB.out⟩
theorem toJoint_any (j : JointT) (A : Option Addr) (c : Nat) (w : World) (hr : Kd.C kEnd w A j.ends.length j.ends) (hn : j.ends.length ≤ 1048576) :
    Calls Tryd.prog 51 #[.agg #[.int .i64 j.kind, .string j.name, .slice A j.ends.length c]] w
      fun e w' => ∃ v, e = .returned (.agg #[.int .i64 j.kind, .string j.name, v]) ∧ Kd.R kEnd 56 w' w.heap.size (fun _ => True) v j.ends ∧ Below w.heap.size w w' := by
  have HR := Aside0.mk hr
  clear hr
  go_enter Tryd.func51, Tryd.ntmps51
  go_wp2_with (go_at_call 75; refine (toEndS_any _ _ _ _ (Kd.C_below HR.out (below_three _ _ _ _)) hn).mono ?_; rintro e w3 ⟨v, rfl, hv, hb3⟩; obtain ⟨hc3, hf3⟩ := bcell hb3; obtain ⟨Av, cv, rfl⟩ := Kd.R_slice hv; have HV := Aside0.mk (Kd.R_lower hv (show w.heap.size + 3 ≤ _ from by simp)); have HB3 := Aside0.mk (below_more (below_three w _ _ _) hb3); have hz := hb3.size; clear hv hb3)
  refine bodyPost_ret (v := .agg #[.int .i64 j.kind, .string j.name, .slice Av j.ends.length cv]) ?_ rfl ?_
  · simp [results, Tryd.results51, go_sem, hc3, hz]
  · refine ⟨.slice Av j.ends.length cv, rfl, ?_, ?_⟩
    · refine Kd.R_lower (base := w.heap.size + 3) ?_ (by omega)
      repeat (first | (with_reducible exact HV.out) | (with_reducible refine R_apart ?_ (by first | omega | (simp; done) | (simp; omega)) _))
    · repeat (first | (with_reducible exact HB3.out) | (with_reducible refine below_set ?_ (by first | omega | (simp; done))))
set_option maxRecDepth 100000 in
theorem toJointS_any (A : Option Addr) (c : Nat) (l : List JointT) (w : World) (hr : Kd.C (kJoint 134) w A l.length l) (hn : l.length ≤ 1048576) (hj : ∀ x ∈ l, x.ends.length ≤ 1048576) :
    Calls Tryd.prog 24 #[.slice A l.length c] w
      fun e w' => ∃ v, e = .returned v ∧ Kd.R (kJoint 56) 53 w' w.heap.size (fun _ => True) v l ∧ Below w.heap.size w w' := by
  have HR := Aside0.mk hr
  clear hr
  have HJ := Aside0.mk hj
  clear hj
  go_enter Tryd.func24, Tryd.ntmps24
  go_wp2_with ((with_reducible refine gate_dst (N := 7) rfl ?_); refine Kd.R_make (kJoint 56) _ 53 rfl (N := 7) rfl 29 _ _ rfl (l.length : Int) rfl rfl Tryd.underlying29 (.agg #[.int .i64 0, .string ⟨#[]⟩, .slice none 0 0]) 48 info53 rfl (by decide) (by decide) default (ok := fun _ => True) (okp := fun _ => True) (kJoint_mkM _ _ _ default (Kd.R_nil _ _ _ _ _)) (fun _ hk => hk) trivial (by omega) (by simp only [Int.toNat_natCast]; omega) (Below.refl _ _) (Nat.le_refl _) ?_; intro v1 w1 ho hb hg hnew; clear hg hnew; rw [Int.toNat_natCast] at ho)
  go_loopw [4] (fun v4 wr => ∃ i : Nat, v4 = .int .i64 i ∧ i ≤ l.length ∧ Aside0 (Kd.R (kJoint 56) 53 wr w.heap.size (fun _ => True) v1 (l.take i ++ List.replicate (l.length - i) default)) ∧ Aside0 (Below w.heap.size w wr)) (fun v4 _ => l.length - (intOf v4).toNat)
  case atStart => exact ⟨0, rfl, Nat.zero_le _, ⟨by simpa using ho⟩, ⟨hb⟩⟩
  case round =>
    clear ho hb
    obtain ⟨i, rfl, hi, HO, HB⟩ := hrel
    by_cases hlt : i < l.length
    · obtain ⟨ad0, B0, k0, e0, x0, x1, x2, m0, g0⟩ := at_Joint HR.out i hlt
      subst e0
      have HS := Aside0.mk (set_fill l i hlt)
      obtain ⟨g, cap, ev, hg1, hg2, _⟩ := Kd.R_form HO.out (by simp; omega)
      have hlen : (l.take i ++ List.replicate (l.length - i) (default : JointT)).length = l.length := by simp; omega
      rw [hlen] at ev
      subst ev
      clear hlen
      obtain ⟨p, hp⟩ : ∃ p, p = l.getD i default := ⟨_, rfl⟩
      rw [← hp] at x0 x1 x2 g0 m0 HS
      have HPM := Aside0.mk hp
      clear hp
      replace x0 := pw_cell_below HB.out x0
      replace x1 := pw_cell_below HB.out x1
      replace x2 := pw_cell_below HB.out x2
      have HG := Aside0.mk (Kd.C_below g0 HB.out)
      have HN := Aside0.mk (HJ.out p (by rw [HPM.out]; exact getD_mem l i hlt))
      clear g0 m0
      go_wp2_with (first | (go_at_call 51; refine (toJoint_any _ _ _ _ HG.out HN.out).mono ?_; rintro e w3 ⟨v3, rfl, hv3, hb3⟩; have H3 := Aside0.mk (Kd.R_below HO.out hb3); have HB3 := Aside0.mk (below_more HB.out hb3); have HV3 := Aside0.mk hv3; obtain ⟨Av, cv, rfl⟩ := Kd.R_slice hv3; clear hb3 hv3) | ((with_reducible refine gate_store (t := 53) (p := 21) rfl ?_); refine store_whole (kJoint 56) w.heap.size rfl rfl 53 _ _ rfl 53 i _ p _ default (fun _ => True) (fun k => wr.heap.size ≤ k) rfl rfl rfl (by kernel_rfl) H3.out hlt (kJoint_mkM _ _ _ p (Kd.R_lower (R_from HV3.out) (HB.out.size))) (fun k hk => ⟨trivial, by omega⟩) HB3.out ?_; intro w5 hR5 hB5 hG5; clear hG5 H3 HB3 HV3))
      go_roundw
      case rel => exact ⟨i + 1, by go_num, by omega, ⟨by rw [← HS.out]; exact hR5⟩, ⟨hB5⟩⟩
      case measure => simp [intOf]; omega
    · have e : l.take i ++ List.replicate (l.length - i) default = l := by
        rw [List.take_of_length_le (by omega), show l.length - i = 0 from by omega]; simp
      have HO2 := HO.out
      rw [e] at HO2
      have H2 := Aside0.mk HO2
      clear e HO2
      go_wp2
      go_ret
      exact ⟨v1, rfl, H2.out, HB.out⟩
theorem toNet_any (n : NetT) (u : (Option Addr × Nat) × (Option Addr × Nat)) (w : World) (hr : RdNet 134 w u n) (hp : n.pieces.length ≤ 1048576) (hj : n.joints.length ≤ 1048576) (he : ∀ x ∈ n.joints, x.ends.length ≤ 1048576) :
    Calls Tryd.prog 8 #[.agg #[.slice u.1.1 n.pieces.length u.1.2, .slice u.2.1 n.joints.length u.2.2]] w
      fun e w' => ∃ v1 v2, e = .returned (.agg #[v1, v2]) ∧ Kd.R kPiece 49 w' w.heap.size (fun _ => True) v1 n.pieces ∧ Kd.R (kJoint 56) 53 w' w.heap.size (fun _ => True) v2 n.joints ∧ Below w.heap.size w w' := by
  have HP := Aside0.mk hr.1.1
  have HJ := Aside0.mk hr.2.1
  clear hr
  obtain ⟨⟨A0, c0⟩, ⟨A1, c1⟩⟩ := u
  go_enter Tryd.func8, Tryd.ntmps8
  go_wp2_with (first | (go_at_call 23; refine (toPieceS_any _ _ _ _ (Kd.C_below HP.out (below_three _ _ _ _)) hp).mono ?_; rintro e w3 ⟨v, rfl, hv, hb3⟩; obtain ⟨hc3, hf3⟩ := bcell hb3; obtain ⟨Av, cv, rfl⟩ := Kd.R_slice hv; have HV := Aside0.mk (Kd.R_lower hv (show w.heap.size + 3 ≤ _ from by simp)); have HB3 := Aside0.mk (below_more (below_three w _ _ _) hb3); have hz := hb3.size; clear hv hb3))
  refine Calls.mono (toJointS_any _ _ _ _ ?_ hj he) ?_
  · exact Kd.C_below HJ.out (below_set HB3.out (by omega))
  rintro e w4 ⟨v, rfl, hv, hb4⟩
  obtain ⟨hc4, hf4⟩ := bcell hb4
  obtain ⟨Aj, cj, rfl⟩ := Kd.R_slice hv
  have hs : w.heap.size + 3 ≤ w3.heap.size := by simpa using hz
  have HV4 := Aside0.mk (Kd.R_lower hv (show w.heap.size + 3 ≤ _ from by simpa using hs))
  have HP4 := Aside0.mk (Kd.R_below (R_apart HV.out (p := ⟨w.heap.size + 2, 0, none⟩) (by simp) (.slice Av n.pieces.length cv)) hb4)
  have HB4 := Aside0.mk (below_more (below_set HB3.out (g := w.heap.size + 2) (by omega)) hb4)
  have hz4 := hb4.size
  clear hv hb4 HV HB3 hz
  have hs4 : w3.heap.size ≤ w4.heap.size := by simpa using hz4
  clear hz4
  have s0 : w.heap.size < w3.heap.size := by omega
  have s1 : w.heap.size + 1 < w3.heap.size := by omega
  have s2 : w.heap.size + 1 + 1 < w3.heap.size := by omega
  have s3 : w.heap.size + 2 < w3.heap.size := by omega
  go_wp2
  refine bodyPost_ret (v := .agg #[.slice Av n.pieces.length cv, .slice Aj n.joints.length cj]) ?_ rfl ?_
  · simp [results, Tryd.results8, go_sem, hc3, hc4, s0, s1, s2, s3]
  · refine ⟨.slice Av n.pieces.length cv, .slice Aj n.joints.length cj, rfl, ?_, ?_, ?_⟩
    · refine Kd.R_lower (base := w.heap.size + 3) ?_ (by omega)
      repeat (first | (with_reducible exact HP4.out) | (with_reducible refine R_apart ?_ (by first | omega | (simp; done) | (simp; omega)) _))
    · refine Kd.R_lower (base := w.heap.size + 3) ?_ (by omega)
      repeat (first | (with_reducible exact HV4.out) | (with_reducible refine R_apart ?_ (by first | omega | (simp; done) | (simp; omega)) _))
    · repeat (first | (with_reducible exact HB4.out) | (with_reducible refine below_set ?_ (by first | omega | (simp; done))))
end Go.Proofs.YtckcffjnffcjcaaDoor
set_option linter.unusedVariables false
namespace Go.Proofs.YtckcffjnffcjcaaDoor
open Go.RowKit Go.Proofs.YtckcffjnffcjcaaDoorW.PrintWords Go.Joins Go.ChangeShapes Go.Deep Go.ChangeAt Go.WideShapes
def I64 (a : Int) : Prop := -9223372036854775808 ≤ a ∧ a ≤ 9223372036854775807
def GEnd (x : EndT) : Prop := I64 x.piece ∧ I64 x.side
def GPiece (x : PieceT) : Prop := x.name.size ≤ 9223372036854775807 ∧ I64 x.len ∧ I64 x.speed ∧ I64 x.brake
def GEnds (l : List EndT) : Prop := l.length ≤ 9223372036854775807 ∧ ∀ x ∈ l, GEnd x
def GJoint (x : JointT) : Prop := I64 x.kind ∧ x.name.size ≤ 9223372036854775807 ∧ GEnds x.ends
def GNet (x : NetT) : Prop := (x.pieces.length ≤ 9223372036854775807 ∧ ∀ p ∈ x.pieces, GPiece p) ∧ (x.joints.length ≤ 9223372036854775807 ∧ ∀ j ∈ x.joints, GJoint j)
end Go.Proofs.YtckcffjnffcjcaaDoor
set_option linter.unusedVariables false
set_option linter.unusedSimpArgs false
namespace Go.Proofs.YtckcffjnffcjcaaDoor
open Go.RowKit Go.Proofs.YtckcffjnffcjcaaDoorW.PrintWords
/-- Does x lie between a and b? -/
def inB (x a b : Int) : Bool := decide (a ≤ x ∧ x ≤ b)
theorem inB_true {x a b : Int} : inB x a b = true ↔ a ≤ x ∧ x ≤ b := by unfold inB; simp
theorem inB_false {x a b : Int} : inB x a b = false ↔ ¬ (a ≤ x ∧ x ≤ b) := by unfold inB; simp
theorem l1in_any (x a b : Int) (w : World) :
    Calls Tryd.prog 59 #[.int .i64 x, .int .i64 a, .int .i64 b] w fun e w' => e = .returned (.bool (inB x a b)) ∧ w = w' := by
  by_cases h1 : a ≤ x
  · go_enter Tryd.func59, Tryd.ntmps59
    go_wp2
    go_ret
    refine ⟨?_, rfl⟩
    unfold inB
    simp [h1]
  · have hd : decide (a ≤ x) = false := by simpa using h1
    go_enter Tryd.func59, Tryd.ntmps59
    go_wp2
    go_ret
    refine ⟨?_, rfl⟩
    unfold inB
    simp; omega
theorem all_step {α : Type} [Inhabited α] {l : List α} {f : α → Bool} {i : Nat} (h : i < l.length) (ha : (l.take i).all f = true) (hp : f (l.getD i default) = true) : (l.take (i + 1)).all f = true := by
  rw [take_getD l i h, List.all_append, ha, List.all_cons, hp]; rfl
theorem all_stop {α : Type} [Inhabited α] {l : List α} {f : α → Bool} {i : Nat} (h : i < l.length) (hp : f (l.getD i default) = false) : l.all f = false := by
  rw [Bool.eq_false_iff]; intro ha
  have := List.all_eq_true.1 ha _ (getD_mem l i h)
  rw [hp] at this; cases this
end Go.Proofs.YtckcffjnffcjcaaDoor
