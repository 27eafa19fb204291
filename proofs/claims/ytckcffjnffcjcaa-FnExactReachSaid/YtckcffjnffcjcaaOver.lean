/- Contracts of l1across, over, Across (both): the ends to which one comes over a joint. Conditions: the net fits (and is right, for over). -/
import Derived.Test.YtckcffjnffcjcaaDrv
set_option linter.unusedVariables false
set_option linter.unusedSimpArgs false
namespace Go.Proofs.Ytckcffjnffcjcaa
open Go.RowKit Go.Proofs.YtckcffjnffcjcaaW.PrintWords
/-- Two values laid in boxes. -/
theorem box2 (w : World) (a b : List Value) (s t : TypeId) : ∃ W0, W0 = (w.alloc (.cells a.toArray s)).alloc (.cells b.toArray t) ∧ Bx W0 w.heap.size a ∧ Bx W0 (w.heap.size + 1) b ∧ Below w.heap.size w W0 ∧ W0.heap.size = w.heap.size + 2 := by
  refine ⟨_, rfl, (Bx.new w a s).alloc _, ?_, below_two _ _ _, by simp⟩
  have := Bx.new (w.alloc (.cells a.toArray s)) b t
  simpa using this
/-- A row of literals in a new block. -/
theorem R_lits {α : Type} (d : Kd α) (W : World) (e : Nat) {xs : List α} {inner : List Value} (hrep : Reps (fun x c => ∀ w base ok, d.M w base ok x c) d.sz xs inner) (hm : xs.length ≤ 9223372036854775807) {base : Nat} (hb : base ≤ W.heap.size) :
    d.R e (W.alloc (.cells inner.toArray e)) base (fun _ => True) (.slice (some ⟨W.heap.size, 0, none⟩) xs.length xs.length) xs := by
  refine ⟨fun _ _ => trivial, inner, ?_, hrep.imp_ fun p c h => h _ _ _⟩
  have h2 := World.ownsRow_lit (base := base) (e := e) (size := d.sz) W inner.toArray xs.length hb (by simpa [maxLen] using hm) (by simpa using hrep.1)
  simpa using h2
theorem R_end1 (W : World) (x : EndT) {base g : Nat} (hg : g = W.heap.size) (hb : base ≤ W.heap.size) : kEnd.R 67 (W.alloc (.cells #[.int .i64 x.piece, .int .i64 x.side] 67)) base (fun _ => True) (.slice (some ⟨g, 0, none⟩) 1 1) [x] := by
  subst hg
  exact R_lits kEnd W 67 (xs := [x]) (inner := [.int .i64 x.piece, .int .i64 x.side]) (by
    have := (Reps.none (fun (x : EndT) c => ∀ w base ok, kEnd.M w base ok x c) 2).snoc (p := x) (c := [.int .i64 x.piece, .int .i64 x.side]) (fun w base ok => kEnd_mkM w base ok x) rfl
    exact this) (by simp) hb
theorem R_end2 (W : World) (x y : EndT) {base g : Nat} (hg : g = W.heap.size) (hb : base ≤ W.heap.size) : kEnd.R 67 (W.alloc (.cells #[.int .i64 x.piece, .int .i64 x.side, .int .i64 y.piece, .int .i64 y.side] 67)) base (fun _ => True) (.slice (some ⟨g, 0, none⟩) 2 2) [x, y] := by
  subst hg
  exact R_lits kEnd W 67 (xs := [x, y]) (inner := [.int .i64 x.piece, .int .i64 x.side, .int .i64 y.piece, .int .i64 y.side]) (by
    have := ((Reps.none (fun (x : EndT) c => ∀ w base ok, kEnd.M w base ok x c) 2).snoc (p := x) (c := [.int .i64 x.piece, .int .i64 x.side]) (fun w base ok => kEnd_mkM w base ok x) rfl).snoc (p := y) (c := [.int .i64 y.piece, .int .i64 y.side]) (fun w base ok => kEnd_mkM w base ok y) rfl
    exact this) (by simp) hb
theorem R_int1 (W : World) (x : Int) {base g : Nat} (hg : g = W.heap.size) (hb : base ≤ W.heap.size) : (Kd.int .i64).R 3 (W.alloc (.cells #[.int .i64 x] 3)) base (fun _ => True) (.slice (some ⟨g, 0, none⟩) 1 1) [x] := by
  subst hg
  exact R_lits (Kd.int .i64) W 3 (xs := [x]) (inner := [.int .i64 x]) (by
    have := (Reps.none (fun (x : Int) c => ∀ w base ok, (Kd.int .i64).M w base ok x c) 1).snoc (p := x) (c := [.int .i64 x]) (fun w base ok => rfl) rfl
    exact this) (by simp) hb
theorem R_int2 (W : World) (x y : Int) {base g : Nat} (hg : g = W.heap.size) (hb : base ≤ W.heap.size) : (Kd.int .i64).R 3 (W.alloc (.cells #[.int .i64 x, .int .i64 y] 3)) base (fun _ => True) (.slice (some ⟨g, 0, none⟩) 2 2) [x, y] := by
  subst hg
  exact R_lits (Kd.int .i64) W 3 (xs := [x, y]) (inner := [.int .i64 x, .int .i64 y]) (by
    have := ((Reps.none (fun (x : Int) c => ∀ w base ok, (Kd.int .i64).M w base ok x c) 1).snoc (p := x) (c := [.int .i64 x]) (fun w base ok => rfl) rfl).snoc (p := y) (c := [.int .i64 y]) (fun w base ok => rfl) rfl
    exact this) (by simp) hb
def acrossG (n : NetT) (e : EndT) : List EndT := if (atEnd n e).1 < 0 then [] else acrossE n e
def howG (n : NetT) (e : EndT) : List Int := if (atEnd n e).1 < 0 then [] else howJ (jOf n e) (kOf n e)
theorem acrossG_at {n : NetT} {e : EndT} {i q : Nat} (h : AtIs n e i q) : acrossG n e = acrossJ (n.joints.getD i default) q ∧ howG n e = howJ (n.joints.getD i default) q := by
  unfold acrossG howG acrossE
  rw [h.eq, if_neg (by simp), if_neg (by simp), h.j, h.k]
  exact ⟨rfl, rfl⟩
theorem acrossG_none {n : NetT} {e : EndT} (h : atEnd n e = (-1, -1)) : acrossG n e = [] ∧ howG n e = [] := by
  unfold acrossG howG
  rw [h]
  exact ⟨if_pos (by decide), if_pos (by decide)⟩
theorem acrossG_ok {n : NetT} (hg : Good n) {e : EndT} (he : endB n e = true) : acrossG n e = acrossE n e := by
  obtain ⟨i, q, h⟩ := hg.at_ he
  rw [(acrossG_at h).1]
  unfold acrossE
  rw [h.j, h.k]
theorem aJ1 {j : JointT} {q : Nat} (h : j.kind = 1) : acrossJ j q = [] ∧ howJ j q = [] := by unfold acrossJ howJ; simp [h]
theorem aJ2 {j : JointT} {q : Nat} (h : j.kind = 2) : acrossJ j q = [j.ends.getD (1 - q) default] ∧ howJ j q = [0] := by unfold acrossJ howJ; simp [h]
theorem aJ30 {j : JointT} (h : j.kind = 3) : acrossJ j 0 = [j.ends.getD 1 default, j.ends.getD 2 default] ∧ howJ j 0 = [1, 2] := by unfold acrossJ howJ; simp [h]
theorem aJ3 {j : JointT} {q : Nat} (h : j.kind = 3) (hq : q ≠ 0) : acrossJ j q = [j.ends.getD 0 default] ∧ howJ j q = [(q : Int)] := by unfold acrossJ howJ; simp [h, hq]
theorem aJ4 {j : JointT} {q : Nat} (h : j.kind = 4) : acrossJ j q = [j.ends.getD (cross4 q) default] ∧ howJ j q = [0] := by unfold acrossJ howJ; simp [h]
theorem end0 {w : World} {A : Option Addr} {n : Nat} {l : List EndT} (h : Kd.C kEnd w A n l) {ad : Addr} (hA : A = some ad) (hn : 0 < n) : w.cell? ad = some (.int .i64 (l.getD 0 default).piece) ∧ w.cell? ⟨ad.block, ad.off + 1, none⟩ = some (.int .i64 (l.getD 0 default).side) := by
  obtain ⟨ad', e, h1, h2⟩ := at_End h 0 hn
  rw [hA] at e
  injection e with e
  subst e
  exact ⟨by simpa [Addr.add] using h1, by simpa [Addr.add] using h2⟩
theorem end1 {w : World} {A : Option Addr} {n : Nat} {l : List EndT} (h : Kd.C kEnd w A n l) {ad : Addr} (hA : A = some ad) (hn : 1 < n) : w.cell? ⟨ad.block, ad.off + 2, none⟩ = some (.int .i64 (l.getD 1 default).piece) ∧ w.cell? ⟨ad.block, ad.off + 3, none⟩ = some (.int .i64 (l.getD 1 default).side) := by
  obtain ⟨ad', e, h1, h2⟩ := at_End h 1 hn
  rw [hA] at e
  injection e with e
  subst e
  exact ⟨by simpa [Addr.add] using h1, by simpa [Addr.add] using h2⟩
theorem end2 {w : World} {A : Option Addr} {n : Nat} {l : List EndT} (h : Kd.C kEnd w A n l) {ad : Addr} (hA : A = some ad) (hn : 2 < n) : w.cell? ⟨ad.block, ad.off + 4, none⟩ = some (.int .i64 (l.getD 2 default).piece) ∧ w.cell? ⟨ad.block, ad.off + 5, none⟩ = some (.int .i64 (l.getD 2 default).side) := by
  obtain ⟨ad', e, h1, h2⟩ := at_End h 2 hn
  rw [hA] at e
  injection e with e
  subst e
  exact ⟨by simpa [Addr.add] using h1, by simpa [Addr.add] using h2⟩
theorem end3 {w : World} {A : Option Addr} {n : Nat} {l : List EndT} (h : Kd.C kEnd w A n l) {ad : Addr} (hA : A = some ad) (hn : 3 < n) : w.cell? ⟨ad.block, ad.off + 6, none⟩ = some (.int .i64 (l.getD 3 default).piece) ∧ w.cell? ⟨ad.block, ad.off + 7, none⟩ = some (.int .i64 (l.getD 3 default).side) := by
  obtain ⟨ad', e, h1, h2⟩ := at_End h 3 hn
  rw [hA] at e
  injection e with e
  subst e
  exact ⟨by simpa [Addr.add] using h1, by simpa [Addr.add] using h2⟩
theorem C_some {α : Type} {d : Kd α} {w : World} {A : Option Addr} {n : Nat} {l : List α} (h : Kd.C d w A n l) (hn : 0 < n) : ∃ ad, A = some ad := by
  obtain ⟨_, _, h3⟩ := h
  obtain ⟨ad, e, _⟩ := h3 hn
  exact ⟨ad, e⟩
set_option maxRecDepth 100000 in
set_option maxHeartbeats 2000000 in
theorem l1across_any (j : JointT) (A : Option Addr) (c : Nat) (q : Nat) (w : World) (hr : Kd.C kEnd w A j.ends.length j.ends) (hk : (j.ends.length : Int) = j.kind) (hq : q < j.ends.length) (hk4 : j.kind ≤ 4) :
    Calls Try.prog 135 #[.agg #[.int .i64 j.kind, .string j.name, .slice A j.ends.length c], .int .i64 q] w
      fun e w' => ∃ v, e = .returned v ∧ Kd.R kEnd 67 w' w.heap.size (fun _ => True) v (acrossJ j q) ∧ Below w.heap.size w w' := by
  obtain ⟨jk, jn, je⟩ := j
  simp only at hk hq hk4 hr ⊢
  obtain ⟨ad, rfl⟩ := C_some hr (by omega)
  obtain ⟨W1, hW1⟩ : ∃ W1, W1 = w.alloc (.cells #[.int .i64 jk, .string jn, .slice (some ad) je.length c] 139) := ⟨_, rfl⟩
  have HR := Aside0.mk (show Kd.C kEnd W1 (some ad) je.length je by rw [hW1]; exact Kd.C_below hr (below_alloc (Below.refl _ _) _))
  have fb := Aside0.mk (show Below w.heap.size w W1 by rw [hW1]; exact below_alloc (Below.refl _ _) _)
  have HW := Aside0.mk hW1
  clear hr hW1
  have hk1 : jk = 1 ∨ jk = 2 ∨ jk = 3 ∨ jk = 4 := by omega
  rcases hk1 with rfl | rfl | rfl | rfl
  · have HA := Aside0.mk (aJ1 (j := ⟨1, jn, je⟩) (q := q) rfl).1
    go_enter Try.func135, Try.ntmps135
    go_wp2
    go_ret
    exact ⟨_, rfl, by rw [HA.out]; exact Kd.R_nil .., below_alloc (Below.refl _ _) _⟩
  · have hl : je.length = 2 := by omega
    rw [hl] at HR HW ⊢
    have hqc : q = 0 ∨ q = 1 := by omega
    clear hk hq hk4
    rcases hqc with rfl | rfl
    ·
      have HA := Aside0.mk (aJ2 (j := ⟨2, jn, je⟩) (q := 0) rfl).1
      obtain ⟨y0, y1⟩ := end1 HR.out (ad := ad) rfl (by omega)
      obtain ⟨p, hp⟩ : ∃ p, p = je.getD 1 default := ⟨_, rfl⟩
      rw [← hp] at y0 y1
      have HA2 : Aside0 (acrossJ ⟨2, jn, je⟩ 0 = [p]) := ⟨by rw [HA.out, hp]; try rfl⟩
      clear hp HA
      rw [HW.out] at y0 y1
      go_enter Try.func135, Try.ntmps135
      go_wp2
      all_goals
        go_ret
        refine ⟨_, rfl, ?_, ?_⟩
        · rw [HA2.out]
          exact R_end1 _ p (by simp) (by simp; try omega)
        · repeat (first | (with_reducible exact Below.refl _ _) | (with_reducible exact fb.out) | (with_reducible refine below_drew ?_) | (with_reducible refine below_drewN' ?_ _) | (with_reducible refine below_alloc ?_ _))
    ·
      have HA := Aside0.mk (aJ2 (j := ⟨2, jn, je⟩) (q := 1) rfl).1
      obtain ⟨y0, y1⟩ := end0 HR.out (ad := ad) rfl (by omega)
      obtain ⟨p, hp⟩ : ∃ p, p = je.getD 0 default := ⟨_, rfl⟩
      rw [← hp] at y0 y1
      have HA2 : Aside0 (acrossJ ⟨2, jn, je⟩ 1 = [p]) := ⟨by rw [HA.out, hp]; try rfl⟩
      clear hp HA
      rw [HW.out] at y0 y1
      go_enter Try.func135, Try.ntmps135
      go_wp2
      all_goals
        go_ret
        refine ⟨_, rfl, ?_, ?_⟩
        · rw [HA2.out]
          exact R_end1 _ p (by simp) (by simp; try omega)
        · repeat (first | (with_reducible exact Below.refl _ _) | (with_reducible exact fb.out) | (with_reducible refine below_drew ?_) | (with_reducible refine below_drewN' ?_ _) | (with_reducible refine below_alloc ?_ _))
  · have hl : je.length = 3 := by omega
    rw [hl] at HR HW ⊢
    have hqc : q = 0 ∨ q = 1 ∨ q = 2 := by omega
    clear hk hq hk4
    rcases hqc with rfl | rfl | rfl
    · have HA := Aside0.mk (aJ30 (j := ⟨3, jn, je⟩) rfl).1
      obtain ⟨y0, y1⟩ := end1 HR.out (ad := ad) rfl (by omega)
      obtain ⟨z0, z1⟩ := end2 HR.out (ad := ad) rfl (by omega)
      obtain ⟨p, hp⟩ : ∃ p, p = je.getD 1 default := ⟨_, rfl⟩
      obtain ⟨p', hp'⟩ : ∃ p, p = je.getD 2 default := ⟨_, rfl⟩
      rw [← hp] at y0 y1
      rw [← hp'] at z0 z1
      have HA2 : Aside0 (acrossJ ⟨3, jn, je⟩ 0 = [p, p']) := ⟨by rw [HA.out, hp, hp']⟩
      clear hp hp' HA
      rw [HW.out] at y0 y1 z0 z1
      go_enter Try.func135, Try.ntmps135
      go_wp2
      go_region
      all_goals try go_wp2
      all_goals
        go_ret
        refine ⟨_, rfl, ?_, ?_⟩
        · rw [HA2.out]
          exact R_end2 _ p p' (by simp) (by simp; try omega)
        · repeat (first | (with_reducible exact Below.refl _ _) | (with_reducible exact fb.out) | (with_reducible refine below_drew ?_) | (with_reducible refine below_drewN' ?_ _) | (with_reducible refine below_alloc ?_ _))
    ·
      have HA := Aside0.mk (aJ3 (j := ⟨3, jn, je⟩) (q := 1) rfl (by omega)).1
      obtain ⟨y0, y1⟩ := end0 HR.out (ad := ad) rfl (by omega)
      obtain ⟨p, hp⟩ : ∃ p, p = je.getD 0 default := ⟨_, rfl⟩
      rw [← hp] at y0 y1
      have HA2 : Aside0 (acrossJ ⟨3, jn, je⟩ 1 = [p]) := ⟨by rw [HA.out, hp]; try rfl⟩
      clear hp HA
      rw [HW.out] at y0 y1
      go_enter Try.func135, Try.ntmps135
      go_wp2
      all_goals
        go_ret
        refine ⟨_, rfl, ?_, ?_⟩
        · rw [HA2.out]
          exact R_end1 _ p (by simp) (by simp; try omega)
        · repeat (first | (with_reducible exact Below.refl _ _) | (with_reducible exact fb.out) | (with_reducible refine below_drew ?_) | (with_reducible refine below_drewN' ?_ _) | (with_reducible refine below_alloc ?_ _))
    ·
      have HA := Aside0.mk (aJ3 (j := ⟨3, jn, je⟩) (q := 2) rfl (by omega)).1
      obtain ⟨y0, y1⟩ := end0 HR.out (ad := ad) rfl (by omega)
      obtain ⟨p, hp⟩ : ∃ p, p = je.getD 0 default := ⟨_, rfl⟩
      rw [← hp] at y0 y1
      have HA2 : Aside0 (acrossJ ⟨3, jn, je⟩ 2 = [p]) := ⟨by rw [HA.out, hp]; try rfl⟩
      clear hp HA
      rw [HW.out] at y0 y1
      go_enter Try.func135, Try.ntmps135
      go_wp2
      all_goals
        go_ret
        refine ⟨_, rfl, ?_, ?_⟩
        · rw [HA2.out]
          exact R_end1 _ p (by simp) (by simp; try omega)
        · repeat (first | (with_reducible exact Below.refl _ _) | (with_reducible exact fb.out) | (with_reducible refine below_drew ?_) | (with_reducible refine below_drewN' ?_ _) | (with_reducible refine below_alloc ?_ _))
  · have hl : je.length = 4 := by omega
    rw [hl] at HR HW ⊢
    have hqc : q = 0 ∨ q = 1 ∨ q = 2 ∨ q = 3 := by omega
    clear hk hq hk4
    rcases hqc with rfl | rfl | rfl | rfl
    ·
      have HA := Aside0.mk (aJ4 (j := ⟨4, jn, je⟩) (q := 0) rfl).1
      obtain ⟨y0, y1⟩ := end1 HR.out (ad := ad) rfl (by omega)
      obtain ⟨p, hp⟩ : ∃ p, p = je.getD 1 default := ⟨_, rfl⟩
      rw [← hp] at y0 y1
      have HA2 : Aside0 (acrossJ ⟨4, jn, je⟩ 0 = [p]) := ⟨by rw [HA.out, hp]; try rfl⟩
      clear hp HA
      rw [HW.out] at y0 y1
      replace y0 := pw_cell_below (below_alloc (Below.refl _ _) (.cells #[.int .i64 1, .int .i64 0, .int .i64 3, .int .i64 2] 3)) y0
      replace y1 := pw_cell_below (below_alloc (Below.refl _ _) (.cells #[.int .i64 1, .int .i64 0, .int .i64 3, .int .i64 2] 3)) y1
      go_enter Try.func135, Try.ntmps135
      go_wp2
      go_region
      all_goals try go_wp2
      all_goals
        go_ret
        refine ⟨_, rfl, ?_, ?_⟩
        · rw [HA2.out]
          exact R_end1 _ p (by simp) (by simp; try omega)
        · repeat (first | (with_reducible exact Below.refl _ _) | (with_reducible exact fb.out) | (with_reducible refine below_drew ?_) | (with_reducible refine below_drewN' ?_ _) | (with_reducible refine below_alloc ?_ _))
    ·
      have HA := Aside0.mk (aJ4 (j := ⟨4, jn, je⟩) (q := 1) rfl).1
      obtain ⟨y0, y1⟩ := end0 HR.out (ad := ad) rfl (by omega)
      obtain ⟨p, hp⟩ : ∃ p, p = je.getD 0 default := ⟨_, rfl⟩
      rw [← hp] at y0 y1
      have HA2 : Aside0 (acrossJ ⟨4, jn, je⟩ 1 = [p]) := ⟨by rw [HA.out, hp]; try rfl⟩
      clear hp HA
      rw [HW.out] at y0 y1
      replace y0 := pw_cell_below (below_alloc (Below.refl _ _) (.cells #[.int .i64 1, .int .i64 0, .int .i64 3, .int .i64 2] 3)) y0
      replace y1 := pw_cell_below (below_alloc (Below.refl _ _) (.cells #[.int .i64 1, .int .i64 0, .int .i64 3, .int .i64 2] 3)) y1
      go_enter Try.func135, Try.ntmps135
      go_wp2
      go_region
      all_goals try go_wp2
      all_goals
        go_ret
        refine ⟨_, rfl, ?_, ?_⟩
        · rw [HA2.out]
          exact R_end1 _ p (by simp) (by simp; try omega)
        · repeat (first | (with_reducible exact Below.refl _ _) | (with_reducible exact fb.out) | (with_reducible refine below_drew ?_) | (with_reducible refine below_drewN' ?_ _) | (with_reducible refine below_alloc ?_ _))
    ·
      have HA := Aside0.mk (aJ4 (j := ⟨4, jn, je⟩) (q := 2) rfl).1
      obtain ⟨y0, y1⟩ := end3 HR.out (ad := ad) rfl (by omega)
      obtain ⟨p, hp⟩ : ∃ p, p = je.getD 3 default := ⟨_, rfl⟩
      rw [← hp] at y0 y1
      have HA2 : Aside0 (acrossJ ⟨4, jn, je⟩ 2 = [p]) := ⟨by rw [HA.out, hp]; try rfl⟩
      clear hp HA
      rw [HW.out] at y0 y1
      replace y0 := pw_cell_below (below_alloc (Below.refl _ _) (.cells #[.int .i64 1, .int .i64 0, .int .i64 3, .int .i64 2] 3)) y0
      replace y1 := pw_cell_below (below_alloc (Below.refl _ _) (.cells #[.int .i64 1, .int .i64 0, .int .i64 3, .int .i64 2] 3)) y1
      go_enter Try.func135, Try.ntmps135
      go_wp2
      go_region
      all_goals try go_wp2
      all_goals
        go_ret
        refine ⟨_, rfl, ?_, ?_⟩
        · rw [HA2.out]
          exact R_end1 _ p (by simp) (by simp; try omega)
        · repeat (first | (with_reducible exact Below.refl _ _) | (with_reducible exact fb.out) | (with_reducible refine below_drew ?_) | (with_reducible refine below_drewN' ?_ _) | (with_reducible refine below_alloc ?_ _))
    ·
      have HA := Aside0.mk (aJ4 (j := ⟨4, jn, je⟩) (q := 3) rfl).1
      obtain ⟨y0, y1⟩ := end2 HR.out (ad := ad) rfl (by omega)
      obtain ⟨p, hp⟩ : ∃ p, p = je.getD 2 default := ⟨_, rfl⟩
      rw [← hp] at y0 y1
      have HA2 : Aside0 (acrossJ ⟨4, jn, je⟩ 3 = [p]) := ⟨by rw [HA.out, hp]; try rfl⟩
      clear hp HA
      rw [HW.out] at y0 y1
      replace y0 := pw_cell_below (below_alloc (Below.refl _ _) (.cells #[.int .i64 1, .int .i64 0, .int .i64 3, .int .i64 2] 3)) y0
      replace y1 := pw_cell_below (below_alloc (Below.refl _ _) (.cells #[.int .i64 1, .int .i64 0, .int .i64 3, .int .i64 2] 3)) y1
      go_enter Try.func135, Try.ntmps135
      go_wp2
      go_region
      all_goals try go_wp2
      all_goals
        go_ret
        refine ⟨_, rfl, ?_, ?_⟩
        · rw [HA2.out]
          exact R_end1 _ p (by simp) (by simp; try omega)
        · repeat (first | (with_reducible exact Below.refl _ _) | (with_reducible exact fb.out) | (with_reducible refine below_drew ?_) | (with_reducible refine below_drewN' ?_ _) | (with_reducible refine below_alloc ?_ _))
end Go.Proofs.Ytckcffjnffcjcaa
