/- What the walk of the program's Reach leans on: the two maps, what is still to come of a range over one, how a round's line and the open map go together. No conditions. -/
import Derived.Test.YtckcffjnffcjcaaRchX
import Derived.Test.YtckcffjnffcjcaaMaps2
import Derived.Test.YtckcffjnffcjcaaNet4
import Derived.Laws.IdiomRangeMap
set_option linter.unusedVariables false
set_option linter.unusedSimpArgs false
namespace Go.Proofs.Ytckcffjnffcjcaa
open Go.RowKit Go.Proofs.YtckcffjnffcjcaaW.PrintWords
/-! ### The key of the open map: a spot and what is left -/
theorem eq_keyGo (a b : ItemT) (w : World) : (Op.equal 192 (.agg #[.int .i64 a.1.piece, .int .i64 a.1.at_, .int .i64 a.1.way, .int .i64 a.2]) (.agg #[.int .i64 b.1.piece, .int .i64 b.1.at_, .int .i64 b.1.way, .int .i64 b.2])).run Try.prog w = .ok (((a.1.piece == b.1.piece) && ((a.1.at_ == b.1.at_) && (a.1.way == b.1.way))) && (a.2 == b.2)) w := by
  unfold Op.equal Op.maxDepth
  exact eqA_of Try.underlying192 (by kernel_rfl) (eqf_cons' (a := .agg #[.int .i64 a.1.piece, .int .i64 a.1.at_, .int .i64 a.1.way]) (b := .agg #[.int .i64 b.1.piece, .int .i64 b.1.at_, .int .i64 b.1.way]) (by kernel_rfl) (by kernel_rfl) (by kernel_rfl) (eqA_of Try.underlying38 (by kernel_rfl) (eqf_cons' (by kernel_rfl) (by kernel_rfl) (by kernel_rfl) (run_equalIn_int w 9997 3 .i64 .i64 a.1.piece b.1.piece Try.underlying3) (eqf_cons' (by kernel_rfl) (by kernel_rfl) (by kernel_rfl) (run_equalIn_int w 9997 3 .i64 .i64 a.1.at_ b.1.at_ Try.underlying3) (eqf_last (by kernel_rfl) (by kernel_rfl) (by kernel_rfl) (run_equalIn_int w 9997 3 .i64 .i64 a.1.way b.1.way Try.underlying3))))) (eqf_last (by kernel_rfl) (by kernel_rfl) (by kernel_rfl) (run_equalIn_int w 9998 3 .i64 .i64 a.2 b.2 Try.underlying3)))
theorem ItemT.ext_iff' (a b : ItemT) : a = b ↔ (a.1.piece = b.1.piece ∧ a.1.at_ = b.1.at_ ∧ a.1.way = b.1.way) ∧ a.2 = b.2 := by
  obtain ⟨⟨p, q, r⟩, s⟩ := a
  obtain ⟨⟨p', q', r'⟩, s'⟩ := b
  simp
def keyGo : KeyEnc Try.prog ItemT where
  t := 192
  kind := _
  enc := fun x => .agg #[.int .i64 x.1.piece, .int .i64 x.1.at_, .int .i64 x.1.way, .int .i64 x.2]
  hk := Try.underlying192
  inj := fun a b h => by
    injection h with h
    have := congrArg Array.toList h
    simp at this
    exact (ItemT.ext_iff' a b).2 ⟨⟨this.1, this.2.1, this.2.2.1⟩, this.2.2.2⟩
  same := fun a => by simp [Instr.sameBits]
  chk := fun e a w => by kernel_rfl
  find := find_of_eq (fun a b => (((a.1.piece == b.1.piece) && ((a.1.at_ == b.1.at_) && (a.1.way == b.1.way))) && (a.2 == b.2))) (fun a b => by simp only [Bool.and_eq_true, beq_iff_eq]; exact (ItemT.ext_iff' a b).symm) (.inr fun a b => by simp [Instr.sameNow]) (fun a b w => eq_keyGo a b w)
/-! ### Sets as maps -/
theorem up_set {κ : Type} [DecidableEq κ] (l : List κ) (k : κ) : up (l.map (fun x => (x, true))) k true = (addR l k).map (fun x => (x, true)) := by
  by_cases h : k ∈ l
  · rw [show addR l k = l by unfold addR; rw [if_pos h]]
    induction l with
    | nil => cases h
    | cons a l ih =>
      by_cases e : a = k
      · subst e; simp [up]
      · have hk : k ∈ l := by
          rcases List.mem_cons.1 h with h | h
          · exact absurd h.symm e
          · exact h
        have := ih hk
        simp only [List.map_cons, up]
        rw [if_neg e, this]
  · rw [show addR l k = l ++ [k] by unfold addR; rw [if_neg h]]
    rw [up_none (fun p hp => by
      obtain ⟨x, hx, rfl⟩ := List.mem_map.1 hp
      exact fun e => h (by rw [← e]; exact hx))]
    simp
theorem addR_map {α β : Type} [DecidableEq α] [DecidableEq β] (g : α → β) (l : List α) (x : α) (h : ∀ y ∈ l, g y = g x → y = x) : (addR l x).map g = addR (l.map g) (g x) := by
  unfold addR
  by_cases hx : x ∈ l
  · rw [if_pos hx, if_pos (List.mem_map_of_mem hx)]
  · rw [if_neg hx, if_neg (fun hm => by
      obtain ⟨y, hy, e⟩ := List.mem_map.1 hm
      exact hx (by rw [← h y hy e]; exact hy))]
    simp
/-- What the open map holds of an item. -/
def goR (n : NetT) (F : Int) (x : ItemT) : ItemT := (moveS x.1 (roomS n x.1), F - x.2 - roomS n x.1)
def lookG (n : NetT) (F : Int) (st : List SpotT × List ItemT) (x : ItemT) : List SpotT × List ItemT :=
  if toldR n F x = true then (addR st.1 (endR F x), st.2) else (st.1, addR st.2 (goR n F x))
/-- A spot where a piece is entered. -/
def EntS (n : NetT) (x : ItemT) : Prop := ∃ e, endB n e = true ∧ x.1 = enterS n e
theorem goR_inj {n : NetT} {F : Int} {x y : ItemT} (hx : EntS n x) (hy : EntS n y) (h : goR n F x = goR n F y) : x = y := by
  obtain ⟨e, _, he⟩ := hx
  obtain ⟨e', _, he'⟩ := hy
  have h1 := congrArg (fun z => z.1.piece) h
  have h2 := congrArg (fun z => z.1.way) h
  have h3 := congrArg (fun z => z.2) h
  simp only [goR, moveS] at h1 h2 h3
  have e1 : x.1 = y.1 := by
    rw [he, he'] at h1 h2 ⊢
    unfold enterS at *
    by_cases a : e.side = 0 <;> by_cases b : e'.side = 0 <;> simp only [a, b, if_true, if_false] at h1 h2 ⊢
    · rw [h1]
    · omega
    · omega
    · rw [h1]
  rw [e1] at h3
  have e2 : x.2 = y.2 := by omega
  exact Prod.ext e1 e2
theorem lookG_look {n : NetT} {F : Int} {out : List SpotT} {next : List ItemT} {x : ItemT} (hn : ∀ y ∈ next, EntS n y) (hx : EntS n x) : lookG n F (out, next.map (goR n F)) x = ((lookR n F (out, next) x).1, (lookR n F (out, next) x).2.map (goR n F)) := by
  unfold lookG lookR
  by_cases h : toldR n F x = true
  · rw [if_pos h, if_pos h]
  · rw [if_neg h, if_neg h]
    simp only
    rw [addR_map (goR n F) next x (fun y hy e => goR_inj (hn y hy) hx e)]
theorem lookR_ent {n : NetT} {F : Int} {st : List SpotT × List ItemT} {x : ItemT} (hn : ∀ y ∈ st.2, EntS n y) (hx : EntS n x) : ∀ y ∈ (lookR n F st x).2, EntS n y := by
  unfold lookR
  split
  · exact hn
  · intro y hy
    rcases (mem_addR _ _ _).1 hy with h | h
    · exact hn y h
    · rw [h]; exact hx
/-! ### What is still to come -/
structure RI {ι κ : Type} (line ps rest : List ι) (g : ι → κ) (left : List (κ × Bool)) : Prop where
  perm : line.Perm (ps ++ rest)
  inj : ∀ x ∈ line, ∀ y ∈ line, g x = g y → x = y
  nd : rest.Nodup
  mem : ∀ p, p ∈ left ↔ ∃ x ∈ rest, p = (g x, true)
theorem nodup_of_map {α β : Type} {g : α → β} {l : List α} (h : (l.map g).Nodup) : l.Nodup := by
  rw [List.nodup_iff_pairwise_ne] at *
  rw [List.pairwise_map] at h
  exact h.imp (fun hab e => hab (by rw [e]))
theorem RI.start {ι κ : Type} {line : List ι} {g : ι → κ} (hi : ∀ x ∈ line, ∀ y ∈ line, g x = g y → x = y) (hn : (line.map g).Nodup) : RI line [] line g ((line.map g).map (fun x => (x, true))) :=
  ⟨List.Perm.refl _, hi, nodup_of_map hn, fun p => by
    simp only [List.map_map, List.mem_map, Function.comp]
    constructor
    · rintro ⟨x, hx, rfl⟩; exact ⟨x, hx, rfl⟩
    · rintro ⟨x, hx, rfl⟩; exact ⟨x, hx, rfl⟩⟩
theorem RI.next {ι κ : Type} [DecidableEq ι] {line ps rest : List ι} {g : ι → κ} {left left' : List (κ × Bool)} {k : κ} {v : Bool} (h : RI line ps rest g left) (hk : (k, v) ∈ left) (h1 : ∀ p, p ∈ left ↔ p = (k, v) ∨ p ∈ left') (h2 : ∀ p ∈ left', p.1 ≠ k) :
    ∃ x rest', x ∈ line ∧ k = g x ∧ v = true ∧ RI line (ps ++ [x]) rest' g left' := by
  obtain ⟨x, hx, e⟩ := (h.mem _).1 hk
  injection e with e1 e2
  have hxl : ∀ y ∈ rest, y ∈ line := fun y hy => h.perm.mem_iff.2 (List.mem_append_right _ hy)
  refine ⟨x, rest.erase x, hxl x hx, e1, e2, ?_, h.inj, h.nd.erase x, fun p => ?_⟩
  · refine h.perm.trans ?_
    rw [List.append_assoc]
    exact List.Perm.append_left _ ((List.perm_cons_erase hx).trans (List.Perm.refl _))
  · constructor
    · intro hp
      obtain ⟨y, hy, rfl⟩ := (h.mem p).1 ((h1 p).2 (.inr hp))
      refine ⟨y, ?_, rfl⟩
      rw [h.nd.mem_erase_iff]
      exact ⟨fun e => h2 _ hp (by rw [e, e1]), hy⟩
    · rintro ⟨y, hy, rfl⟩
      rw [h.nd.mem_erase_iff] at hy
      rcases (h1 (g y, true)).1 ((h.mem _).2 ⟨y, hy.2, rfl⟩) with e | e
      · injection e with e _
        exact absurd (h.inj y (hxl y hy.2) x (hxl x hx) (by rw [e, e1])) hy.1
      · exact e
theorem RI.done {ι κ : Type} {line ps rest : List ι} {g : ι → κ} (h : RI line ps rest g []) : line.Perm ps := by
  cases rest with
  | nil => simpa using h.perm
  | cons x rest => exact absurd ((h.mem (g x, true)).2 ⟨x, List.mem_cons_self, rfl⟩) (by simp)
theorem RI.length {ι κ : Type} {line ps rest : List ι} {g : ι → κ} {left : List (κ × Bool)} (h : RI line ps rest g left) : ps.length ≤ line.length := by
  have := h.perm.length_eq
  rw [List.length_append] at this
  omega
theorem RG.ent {n : NetT} {s : SpotT} {F : Int} {k : Nat} {out : List SpotT} {line : List ItemT} (h : RG n s F k out line) : ∀ x ∈ line, ∀ y ∈ line, goR n F x = goR n F y → x = y := by
  intro x hx y hy e
  rcases h.inj with hl | hl
  · rw [hl] at hx hy
    rw [List.mem_singleton.1 hx, List.mem_singleton.1 hy]
  · exact goR_inj (hl x hx) (hl y hy) e
theorem roundR_snoc {n : NetT} {F : Int} {out : List SpotT} {ps : List ItemT} {x : ItemT} : roundR n F out (ps ++ [x]) = (nextR n x).foldl (lookR n F) (roundR n F out ps) := by
  unfold roundR
  rw [List.flatMap_append, List.foldl_append]
  simp
theorem headE_move (n : NetT) (s : SpotT) (r : Int) : headE (moveS s r) = headE s := rfl
theorem moveS_there {n : NetT} {s : SpotT} (h : spotB n s = true) (hg : Good n) : spotB n (moveS s (roomS n s)) = true := by
  have h1 := spotB_iff.1 h
  have h2 := hg.len h1.1 h1.2.1
  rw [spotB_iff]
  unfold moveS roomS
  simp only
  rcases h1.2.2.1 with e | e <;> rw [e]
  · rw [if_pos rfl]; omega
  · rw [if_neg (by omega)]; omega
end Go.Proofs.Ytckcffjnffcjcaa
