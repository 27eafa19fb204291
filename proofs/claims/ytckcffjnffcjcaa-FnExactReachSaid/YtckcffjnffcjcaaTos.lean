/- Contracts of the laws' copies: toX hands back the same value, toXS the same list in new memory. The lists have at most 1048576 elements. -/
import Derived.Test.YtckcffjnffcjcaaLib
set_option linter.unusedVariables false
set_option linter.unusedSimpArgs false
namespace Go.Proofs.Ytckcffjnffcjcaa
open Go.RowKit Go.Proofs.YtckcffjnffcjcaaW.PrintWords
theorem below_two' {w W : World} (h : Below w.heap.size w W) (o1 o2 : Obj) : Below w.heap.size w ((W.alloc o1).alloc o2) := below_alloc (below_alloc h o1) o2

theorem info67 : (Try.prog.info? 67).map (fun i => (i.zero, i.size, i.bytes)) = some (some (.agg #[.int .i64 0, .int .i64 0]), 2, 16) := by kernel_rfl
theorem info78 : (Try.prog.info? 78).map (fun i => (i.zero, i.size, i.bytes)) = some (some (.agg #[.string ⟨#[]⟩, .int .i64 0, .int .i64 0, .int .i64 0]), 4, 40) := by kernel_rfl
theorem info38 : (Try.prog.info? 38).map (fun i => (i.zero, i.size, i.bytes)) = some (some (.agg #[.int .i64 0, .int .i64 0, .int .i64 0]), 3, 24) := by kernel_rfl
theorem info89 : (Try.prog.info? 89).map (fun i => (i.zero, i.size, i.bytes)) = some (some (.agg #[.int .i64 0, .int .i64 0, .int .i64 0]), 3, 24) := by kernel_rfl
theorem info85 : (Try.prog.info? 85).map (fun i => (i.zero, i.size, i.bytes)) = some (some (.agg #[.int .i64 0, .int .i64 0]), 2, 16) := by kernel_rfl
theorem info111 : (Try.prog.info? 111).map (fun i => (i.zero, i.size, i.bytes)) = some (some (.agg #[.int .i64 0, .int .i64 0]), 2, 16) := by kernel_rfl
theorem info139 : (Try.prog.info? 139).map (fun i => (i.zero, i.size, i.bytes)) = some (some (.agg #[.int .i64 0, .string ⟨#[]⟩, .slice none 0 0]), 3, 48) := by kernel_rfl
theorem info3 : (Try.prog.info? 3).map (fun i => (i.zero, i.size, i.bytes)) = some (some (.int .i64 0), 1, 8) := by kernel_rfl
theorem toEnd_any (p : EndT) (w : World) :
    Calls Try.prog 51 #[.agg #[.int .i64 p.piece, .int .i64 p.side]] w fun e w' => e = .returned (.agg #[.int .i64 p.piece, .int .i64 p.side]) ∧ Below w.heap.size w w' := by
  go_enter Try.func51, Try.ntmps51
  go_wp2
  exact bodyPost_ret (v := .agg #[.int .i64 p.piece, .int .i64 p.side]) (by simp [results, Try.results51, go_sem]) rfl ⟨rfl, below_alloc (below_alloc (below_alloc (Below.refl _ _) _) _) _⟩
theorem toPiece_any (p : PieceT) (w : World) :
    Calls Try.prog 175 #[.agg #[.string p.name, .int .i64 p.len, .int .i64 p.speed, .int .i64 p.brake]] w fun e w' => e = .returned (.agg #[.string p.name, .int .i64 p.len, .int .i64 p.speed, .int .i64 p.brake]) ∧ Below w.heap.size w w' := by
  go_enter Try.func175, Try.ntmps175
  go_wp2
  exact bodyPost_ret (v := .agg #[.string p.name, .int .i64 p.len, .int .i64 p.speed, .int .i64 p.brake]) (by simp [results, Try.results175, go_sem]) rfl ⟨rfl, below_alloc (below_alloc (below_alloc (Below.refl _ _) _) _) _⟩
theorem toSpot_any (p : SpotT) (w : World) :
    Calls Try.prog 48 #[.agg #[.int .i64 p.piece, .int .i64 p.at_, .int .i64 p.way]] w fun e w' => e = .returned (.agg #[.int .i64 p.piece, .int .i64 p.at_, .int .i64 p.way]) ∧ Below w.heap.size w w' := by
  go_enter Try.func48, Try.ntmps48
  go_wp2
  exact bodyPost_ret (v := .agg #[.int .i64 p.piece, .int .i64 p.at_, .int .i64 p.way]) (by simp [results, Try.results48, go_sem]) rfl ⟨rfl, below_alloc (below_alloc (below_alloc (Below.refl _ _) _) _) _⟩
theorem toPart_any (p : PartT) (w : World) :
    Calls Try.prog 105 #[.agg #[.int .i64 p.piece, .int .i64 p.frm, .int .i64 p.upto]] w fun e w' => e = .returned (.agg #[.int .i64 p.piece, .int .i64 p.frm, .int .i64 p.upto]) ∧ Below w.heap.size w w' := by
  go_enter Try.func105, Try.ntmps105
  go_wp2
  exact bodyPost_ret (v := .agg #[.int .i64 p.piece, .int .i64 p.frm, .int .i64 p.upto]) (by simp [results, Try.results105, go_sem]) rfl ⟨rfl, below_alloc (below_alloc (below_alloc (Below.refl _ _) _) _) _⟩
theorem toStep_any (p : StepT) (w : World) :
    Calls Try.prog 147 #[.agg #[.int .i64 p.piece, .int .i64 p.way]] w fun e w' => e = .returned (.agg #[.int .i64 p.piece, .int .i64 p.way]) ∧ Below w.heap.size w w' := by
  go_enter Try.func147, Try.ntmps147
  go_wp2
  exact bodyPost_ret (v := .agg #[.int .i64 p.piece, .int .i64 p.way]) (by simp [results, Try.results147, go_sem]) rfl ⟨rfl, below_alloc (below_alloc (below_alloc (Below.refl _ _) _) _) _⟩
theorem toLie_any (p : LieT) (w : World) :
    Calls Try.prog 185 #[.agg #[.int .i64 p.joint, .int .i64 p.lie]] w fun e w' => e = .returned (.agg #[.int .i64 p.joint, .int .i64 p.lie]) ∧ Below w.heap.size w w' := by
  go_enter Try.func185, Try.ntmps185
  go_wp2
  exact bodyPost_ret (v := .agg #[.int .i64 p.joint, .int .i64 p.lie]) (by simp [results, Try.results185, go_sem]) rfl ⟨rfl, below_alloc (below_alloc (below_alloc (Below.refl _ _) _) _) _⟩
set_option maxRecDepth 100000 in
theorem toPieceS_any (A : Option Addr) (c : Nat) (l : List PieceT) (w : World) (hr : Kd.C kPiece w A l.length l) (hn : l.length ≤ 1048576) :
    Calls Try.prog 122 #[.slice A l.length c] w
      fun e w' => ∃ v, e = .returned v ∧ Kd.R kPiece 78 w' w.heap.size (fun _ => True) v l ∧ Below w.heap.size w w' := by
  have HR := Aside0.mk hr
  clear hr
  go_enter Try.func122, Try.ntmps122
  go_wp2_with ((with_reducible refine gate_dst (N := 7) rfl ?_); refine Kd.R_make kPiece _ 78 rfl (N := 7) rfl 32 _ _ rfl (l.length : Int) rfl rfl Try.underlying32 (.agg #[.string ⟨#[]⟩, .int .i64 0, .int .i64 0, .int .i64 0]) 40 info78 rfl (by decide) (by decide) default (ok := fun _ => True) (okp := fun _ => True) (kPiece_mkM _ _ _ default) (fun _ hk => hk) trivial (by omega) (by simp only [Int.toNat_natCast]; omega) (Below.refl _ _) (Nat.le_refl _) ?_; intro v1 w1 ho hb hg hnew; clear hg hnew; rw [Int.toNat_natCast] at ho)
  go_loopw [4] (fun v4 wr => ∃ i : Nat, v4 = .int .i64 i ∧ i ≤ l.length ∧ Aside0 (Kd.R kPiece 78 wr w.heap.size (fun _ => True) v1 (l.take i ++ List.replicate (l.length - i) default)) ∧ Aside0 (Below w.heap.size w wr)) (fun v4 _ => l.length - (intOf v4).toNat)
  case atStart => exact ⟨0, rfl, Nat.zero_le _, ⟨by simpa using ho⟩, ⟨hb⟩⟩
  case round =>
    clear ho hb
    obtain ⟨i, rfl, hi, HO, HB⟩ := hrel
    by_cases hlt : i < l.length
    · obtain ⟨ad0, e0, x0, x1, x2, x3⟩ := at_Piece HR.out i hlt
      subst e0
      have HS := Aside0.mk (set_fill l i hlt)
      obtain ⟨g, cap, ev, hg1, hg2, _⟩ := Kd.R_form HO.out (by simp; omega)
      have hlen : (l.take i ++ List.replicate (l.length - i) (default : PieceT)).length = l.length := by simp; omega
      rw [hlen] at ev
      subst ev
      clear hlen
      obtain ⟨p, hp⟩ : ∃ p, p = l.getD i default := ⟨_, rfl⟩
      rw [← hp] at x0 x1 x2 x3 HS
      have HPM := Aside0.mk hp
      clear hp
      replace x0 := pw_cell_below HB.out x0
      replace x1 := pw_cell_below HB.out x1
      replace x2 := pw_cell_below HB.out x2
      replace x3 := pw_cell_below HB.out x3
      go_wp2_with (first | (go_at_call 175; refine (toPiece_any _ _).mono ?_; rintro e w3 ⟨rfl, hb3⟩; have H3 := Aside0.mk (Kd.R_below HO.out hb3); have HB3 := Aside0.mk (below_more HB.out hb3); clear hb3) | ((with_reducible refine gate_store (t := 78) (p := 21) rfl ?_); refine store_whole kPiece w.heap.size rfl rfl 78 _ _ rfl 78 i _ p _ default (fun _ => True) (fun k => k ≠ g) rfl (by first | rfl | (simp [kPiece, Kd.iso, Kd.pair, Kd.int, Kd.string, Kd.scalar]; done)) rfl (by kernel_rfl) H3.out hlt (kPiece_mkM _ _ _ p) (fun _ hk => ⟨trivial, hk⟩) HB3.out ?_; intro w5 hR5 hB5 hG5; clear hG5 H3 HB3))
      go_roundw
      case rel => exact ⟨i + 1, by go_num, by omega, ⟨by rw [← HS.out]; exact hR5⟩, ⟨hB5⟩⟩
      case measure => simp [intOf]; omega
    · have e : l.take i ++ List.replicate (l.length - i) default = l := by
        rw [List.take_of_length_le (by omega), show l.length - i = 0 from by omega]; simp
      have HO2 := HO.out
      rw [e] at HO2
      have H2 := Aside0.mk HO2
      clear e HO2
      go_wp2
      go_ret
      exact ⟨v1, rfl, H2.out, HB.out⟩
set_option maxRecDepth 100000 in
theorem toEndS_any (A : Option Addr) (c : Nat) (l : List EndT) (w : World) (hr : Kd.C kEnd w A l.length l) (hn : l.length ≤ 1048576) :
    Calls Try.prog 191 #[.slice A l.length c] w
      fun e w' => ∃ v, e = .returned v ∧ Kd.R kEnd 67 w' w.heap.size (fun _ => True) v l ∧ Below w.heap.size w w' := by
  have HR := Aside0.mk hr
  clear hr
  go_enter Try.func191, Try.ntmps191
  go_wp2_with ((with_reducible refine gate_dst (N := 7) rfl ?_); refine Kd.R_make kEnd _ 67 rfl (N := 7) rfl 72 _ _ rfl (l.length : Int) rfl rfl Try.underlying72 (.agg #[.int .i64 0, .int .i64 0]) 16 info67 rfl (by decide) (by decide) default (ok := fun _ => True) (okp := fun _ => True) (kEnd_mkM _ _ _ default) (fun _ hk => hk) trivial (by omega) (by simp only [Int.toNat_natCast]; omega) (Below.refl _ _) (Nat.le_refl _) ?_; intro v1 w1 ho hb hg hnew; clear hg hnew; rw [Int.toNat_natCast] at ho)
  go_loopw [4] (fun v4 wr => ∃ i : Nat, v4 = .int .i64 i ∧ i ≤ l.length ∧ Aside0 (Kd.R kEnd 67 wr w.heap.size (fun _ => True) v1 (l.take i ++ List.replicate (l.length - i) default)) ∧ Aside0 (Below w.heap.size w wr)) (fun v4 _ => l.length - (intOf v4).toNat)
  case atStart => exact ⟨0, rfl, Nat.zero_le _, ⟨by simpa using ho⟩, ⟨hb⟩⟩
  case round =>
    clear ho hb
    obtain ⟨i, rfl, hi, HO, HB⟩ := hrel
    by_cases hlt : i < l.length
    · obtain ⟨ad0, e0, x0, x1⟩ := at_End HR.out i hlt
      subst e0
      have HS := Aside0.mk (set_fill l i hlt)
      obtain ⟨g, cap, ev, hg1, hg2, _⟩ := Kd.R_form HO.out (by simp; omega)
      have hlen : (l.take i ++ List.replicate (l.length - i) (default : EndT)).length = l.length := by simp; omega
      rw [hlen] at ev
      subst ev
      clear hlen
      obtain ⟨p, hp⟩ : ∃ p, p = l.getD i default := ⟨_, rfl⟩
      rw [← hp] at x0 x1 HS
      have HPM := Aside0.mk hp
      clear hp
      replace x0 := pw_cell_below HB.out x0
      replace x1 := pw_cell_below HB.out x1
      go_wp2_with (first | (go_at_call 51; refine (toEnd_any _ _).mono ?_; rintro e w3 ⟨rfl, hb3⟩; have H3 := Aside0.mk (Kd.R_below HO.out hb3); have HB3 := Aside0.mk (below_more HB.out hb3); clear hb3) | ((with_reducible refine gate_store (t := 67) (p := 21) rfl ?_); refine store_whole kEnd w.heap.size rfl rfl 67 _ _ rfl 67 i _ p _ default (fun _ => True) (fun k => k ≠ g) rfl (by first | rfl | (simp [kEnd, Kd.iso, Kd.pair, Kd.int, Kd.string, Kd.scalar]; done)) rfl (by kernel_rfl) H3.out hlt (kEnd_mkM _ _ _ p) (fun _ hk => ⟨trivial, hk⟩) HB3.out ?_; intro w5 hR5 hB5 hG5; clear hG5 H3 HB3))
      go_roundw
      case rel => exact ⟨i + 1, by go_num, by omega, ⟨by rw [← HS.out]; exact hR5⟩, ⟨hB5⟩⟩
      case measure => simp [intOf]; omega
    · have e : l.take i ++ List.replicate (l.length - i) default = l := by
        rw [List.take_of_length_le (by omega), show l.length - i = 0 from by omega]; simp
      have HO2 := HO.out
      rw [e] at HO2
      have H2 := Aside0.mk HO2
      clear e HO2
      go_wp2
      go_ret
      exact ⟨v1, rfl, H2.out, HB.out⟩
set_option maxRecDepth 100000 in
theorem toPartS_any (A : Option Addr) (c : Nat) (l : List PartT) (w : World) (hr : Kd.C kPart w A l.length l) (hn : l.length ≤ 1048576) :
    Calls Try.prog 28 #[.slice A l.length c] w
      fun e w' => ∃ v, e = .returned v ∧ Kd.R kPart 89 w' w.heap.size (fun _ => True) v l ∧ Below w.heap.size w w' := by
  have HR := Aside0.mk hr
  clear hr
  go_enter Try.func28, Try.ntmps28
  go_wp2_with ((with_reducible refine gate_dst (N := 7) rfl ?_); refine Kd.R_make kPart _ 89 rfl (N := 7) rfl 26 _ _ rfl (l.length : Int) rfl rfl Try.underlying26 (.agg #[.int .i64 0, .int .i64 0, .int .i64 0]) 24 info89 rfl (by decide) (by decide) default (ok := fun _ => True) (okp := fun _ => True) (kPart_mkM _ _ _ default) (fun _ hk => hk) trivial (by omega) (by simp only [Int.toNat_natCast]; omega) (Below.refl _ _) (Nat.le_refl _) ?_; intro v1 w1 ho hb hg hnew; clear hg hnew; rw [Int.toNat_natCast] at ho)
  go_loopw [4] (fun v4 wr => ∃ i : Nat, v4 = .int .i64 i ∧ i ≤ l.length ∧ Aside0 (Kd.R kPart 89 wr w.heap.size (fun _ => True) v1 (l.take i ++ List.replicate (l.length - i) default)) ∧ Aside0 (Below w.heap.size w wr)) (fun v4 _ => l.length - (intOf v4).toNat)
  case atStart => exact ⟨0, rfl, Nat.zero_le _, ⟨by simpa using ho⟩, ⟨hb⟩⟩
  case round =>
    clear ho hb
    obtain ⟨i, rfl, hi, HO, HB⟩ := hrel
    by_cases hlt : i < l.length
    · obtain ⟨ad0, e0, x0, x1, x2⟩ := at_Part HR.out i hlt
      subst e0
      have HS := Aside0.mk (set_fill l i hlt)
      obtain ⟨g, cap, ev, hg1, hg2, _⟩ := Kd.R_form HO.out (by simp; omega)
      have hlen : (l.take i ++ List.replicate (l.length - i) (default : PartT)).length = l.length := by simp; omega
      rw [hlen] at ev
      subst ev
      clear hlen
      obtain ⟨p, hp⟩ : ∃ p, p = l.getD i default := ⟨_, rfl⟩
      rw [← hp] at x0 x1 x2 HS
      have HPM := Aside0.mk hp
      clear hp
      replace x0 := pw_cell_below HB.out x0
      replace x1 := pw_cell_below HB.out x1
      replace x2 := pw_cell_below HB.out x2
      go_wp2_with (first | (go_at_call 105; refine (toPart_any _ _).mono ?_; rintro e w3 ⟨rfl, hb3⟩; have H3 := Aside0.mk (Kd.R_below HO.out hb3); have HB3 := Aside0.mk (below_more HB.out hb3); clear hb3) | ((with_reducible refine gate_store (t := 89) (p := 21) rfl ?_); refine store_whole kPart w.heap.size rfl rfl 89 _ _ rfl 89 i _ p _ default (fun _ => True) (fun k => k ≠ g) rfl (by first | rfl | (simp [kPart, Kd.iso, Kd.pair, Kd.int, Kd.string, Kd.scalar]; done)) rfl (by kernel_rfl) H3.out hlt (kPart_mkM _ _ _ p) (fun _ hk => ⟨trivial, hk⟩) HB3.out ?_; intro w5 hR5 hB5 hG5; clear hG5 H3 HB3))
      go_roundw
      case rel => exact ⟨i + 1, by go_num, by omega, ⟨by rw [← HS.out]; exact hR5⟩, ⟨hB5⟩⟩
      case measure => simp [intOf]; omega
    · have e : l.take i ++ List.replicate (l.length - i) default = l := by
        rw [List.take_of_length_le (by omega), show l.length - i = 0 from by omega]; simp
      have HO2 := HO.out
      rw [e] at HO2
      have H2 := Aside0.mk HO2
      clear e HO2
      go_wp2
      go_ret
      exact ⟨v1, rfl, H2.out, HB.out⟩
set_option maxRecDepth 100000 in
theorem toStepS_any (A : Option Addr) (c : Nat) (l : List StepT) (w : World) (hr : Kd.C kStep w A l.length l) (hn : l.length ≤ 1048576) :
    Calls Try.prog 76 #[.slice A l.length c] w
      fun e w' => ∃ v, e = .returned v ∧ Kd.R kStep 85 w' w.heap.size (fun _ => True) v l ∧ Below w.heap.size w w' := by
  have HR := Aside0.mk hr
  clear hr
  go_enter Try.func76, Try.ntmps76
  go_wp2_with ((with_reducible refine gate_dst (N := 7) rfl ?_); refine Kd.R_make kStep _ 85 rfl (N := 7) rfl 83 _ _ rfl (l.length : Int) rfl rfl Try.underlying83 (.agg #[.int .i64 0, .int .i64 0]) 16 info85 rfl (by decide) (by decide) default (ok := fun _ => True) (okp := fun _ => True) (kStep_mkM _ _ _ default) (fun _ hk => hk) trivial (by omega) (by simp only [Int.toNat_natCast]; omega) (Below.refl _ _) (Nat.le_refl _) ?_; intro v1 w1 ho hb hg hnew; clear hg hnew; rw [Int.toNat_natCast] at ho)
  go_loopw [4] (fun v4 wr => ∃ i : Nat, v4 = .int .i64 i ∧ i ≤ l.length ∧ Aside0 (Kd.R kStep 85 wr w.heap.size (fun _ => True) v1 (l.take i ++ List.replicate (l.length - i) default)) ∧ Aside0 (Below w.heap.size w wr)) (fun v4 _ => l.length - (intOf v4).toNat)
  case atStart => exact ⟨0, rfl, Nat.zero_le _, ⟨by simpa using ho⟩, ⟨hb⟩⟩
  case round =>
    clear ho hb
    obtain ⟨i, rfl, hi, HO, HB⟩ := hrel
    by_cases hlt : i < l.length
    · obtain ⟨ad0, e0, x0, x1⟩ := at_Step HR.out i hlt
      subst e0
      have HS := Aside0.mk (set_fill l i hlt)
      obtain ⟨g, cap, ev, hg1, hg2, _⟩ := Kd.R_form HO.out (by simp; omega)
      have hlen : (l.take i ++ List.replicate (l.length - i) (default : StepT)).length = l.length := by simp; omega
      rw [hlen] at ev
      subst ev
      clear hlen
      obtain ⟨p, hp⟩ : ∃ p, p = l.getD i default := ⟨_, rfl⟩
      rw [← hp] at x0 x1 HS
      have HPM := Aside0.mk hp
      clear hp
      replace x0 := pw_cell_below HB.out x0
      replace x1 := pw_cell_below HB.out x1
      go_wp2_with (first | (go_at_call 147; refine (toStep_any _ _).mono ?_; rintro e w3 ⟨rfl, hb3⟩; have H3 := Aside0.mk (Kd.R_below HO.out hb3); have HB3 := Aside0.mk (below_more HB.out hb3); clear hb3) | ((with_reducible refine gate_store (t := 85) (p := 21) rfl ?_); refine store_whole kStep w.heap.size rfl rfl 85 _ _ rfl 85 i _ p _ default (fun _ => True) (fun k => k ≠ g) rfl (by first | rfl | (simp [kStep, Kd.iso, Kd.pair, Kd.int, Kd.string, Kd.scalar]; done)) rfl (by kernel_rfl) H3.out hlt (kStep_mkM _ _ _ p) (fun _ hk => ⟨trivial, hk⟩) HB3.out ?_; intro w5 hR5 hB5 hG5; clear hG5 H3 HB3))
      go_roundw
      case rel => exact ⟨i + 1, by go_num, by omega, ⟨by rw [← HS.out]; exact hR5⟩, ⟨hB5⟩⟩
      case measure => simp [intOf]; omega
    · have e : l.take i ++ List.replicate (l.length - i) default = l := by
        rw [List.take_of_length_le (by omega), show l.length - i = 0 from by omega]; simp
      have HO2 := HO.out
      rw [e] at HO2
      have H2 := Aside0.mk HO2
      clear e HO2
      go_wp2
      go_ret
      exact ⟨v1, rfl, H2.out, HB.out⟩
set_option maxRecDepth 100000 in
theorem toLieS_any (A : Option Addr) (c : Nat) (l : List LieT) (w : World) (hr : Kd.C kLie w A l.length l) (hn : l.length ≤ 1048576) :
    Calls Try.prog 160 #[.slice A l.length c] w
      fun e w' => ∃ v, e = .returned v ∧ Kd.R kLie 111 w' w.heap.size (fun _ => True) v l ∧ Below w.heap.size w w' := by
  have HR := Aside0.mk hr
  clear hr
  go_enter Try.func160, Try.ntmps160
  go_wp2_with ((with_reducible refine gate_dst (N := 7) rfl ?_); refine Kd.R_make kLie _ 111 rfl (N := 7) rfl 95 _ _ rfl (l.length : Int) rfl rfl Try.underlying95 (.agg #[.int .i64 0, .int .i64 0]) 16 info111 rfl (by decide) (by decide) default (ok := fun _ => True) (okp := fun _ => True) (kLie_mkM _ _ _ default) (fun _ hk => hk) trivial (by omega) (by simp only [Int.toNat_natCast]; omega) (Below.refl _ _) (Nat.le_refl _) ?_; intro v1 w1 ho hb hg hnew; clear hg hnew; rw [Int.toNat_natCast] at ho)
  go_loopw [4] (fun v4 wr => ∃ i : Nat, v4 = .int .i64 i ∧ i ≤ l.length ∧ Aside0 (Kd.R kLie 111 wr w.heap.size (fun _ => True) v1 (l.take i ++ List.replicate (l.length - i) default)) ∧ Aside0 (Below w.heap.size w wr)) (fun v4 _ => l.length - (intOf v4).toNat)
  case atStart => exact ⟨0, rfl, Nat.zero_le _, ⟨by simpa using ho⟩, ⟨hb⟩⟩
  case round =>
    clear ho hb
    obtain ⟨i, rfl, hi, HO, HB⟩ := hrel
    by_cases hlt : i < l.length
    · obtain ⟨ad0, e0, x0, x1⟩ := at_Lie HR.out i hlt
      subst e0
      have HS := Aside0.mk (set_fill l i hlt)
      obtain ⟨g, cap, ev, hg1, hg2, _⟩ := Kd.R_form HO.out (by simp; omega)
      have hlen : (l.take i ++ List.replicate (l.length - i) (default : LieT)).length = l.length := by simp; omega
      rw [hlen] at ev
      subst ev
      clear hlen
      obtain ⟨p, hp⟩ : ∃ p, p = l.getD i default := ⟨_, rfl⟩
      rw [← hp] at x0 x1 HS
      have HPM := Aside0.mk hp
      clear hp
      replace x0 := pw_cell_below HB.out x0
      replace x1 := pw_cell_below HB.out x1
      go_wp2_with (first | (go_at_call 185; refine (toLie_any _ _).mono ?_; rintro e w3 ⟨rfl, hb3⟩; have H3 := Aside0.mk (Kd.R_below HO.out hb3); have HB3 := Aside0.mk (below_more HB.out hb3); clear hb3) | ((with_reducible refine gate_store (t := 111) (p := 21) rfl ?_); refine store_whole kLie w.heap.size rfl rfl 111 _ _ rfl 111 i _ p _ default (fun _ => True) (fun k => k ≠ g) rfl (by first | rfl | (simp [kLie, Kd.iso, Kd.pair, Kd.int, Kd.string, Kd.scalar]; done)) rfl (by kernel_rfl) H3.out hlt (kLie_mkM _ _ _ p) (fun _ hk => ⟨trivial, hk⟩) HB3.out ?_; intro w5 hR5 hB5 hG5; clear hG5 H3 HB3))
      go_roundw
      case rel => exact ⟨i + 1, by go_num, by omega, ⟨by rw [← HS.out]; exact hR5⟩, ⟨hB5⟩⟩
      case measure => simp [intOf]; omega
    · have e : l.take i ++ List.replicate (l.length - i) default = l := by
        rw [List.take_of_length_le (by omega), show l.length - i = 0 from by omega]; simp
      have HO2 := HO.out
      rw [e] at HO2
      have H2 := Aside0.mk HO2
      clear e HO2
      go_wp2
      go_ret
      exact ⟨v1, rfl, H2.out, HB.out⟩
theorem toJoint_any (j : JointT) (A : Option Addr) (c : Nat) (w : World) (hr : Kd.C kEnd w A j.ends.length j.ends) (hn : j.ends.length ≤ 1048576) :
    Calls Try.prog 176 #[.agg #[.int .i64 j.kind, .string j.name, .slice A j.ends.length c]] w
      fun e w' => ∃ v, e = .returned (.agg #[.int .i64 j.kind, .string j.name, v]) ∧ Kd.R kEnd 67 w' w.heap.size (fun _ => True) v j.ends ∧ Below w.heap.size w w' := by
  have HR := Aside0.mk hr
  clear hr
  go_enter Try.func176, Try.ntmps176
  go_wp2_with (go_at_call 191; refine (toEndS_any _ _ _ _ (Kd.C_below HR.out (below_three _ _ _ _)) hn).mono ?_; rintro e w3 ⟨v, rfl, hv, hb3⟩; obtain ⟨hc3, hf3⟩ := bcell hb3; obtain ⟨Av, cv, rfl⟩ := Kd.R_slice hv; have HV := Aside0.mk (Kd.R_lower hv (show w.heap.size + 3 ≤ _ from by simp)); have HB3 := Aside0.mk (below_more (below_three w _ _ _) hb3); have hz := hb3.size; clear hv hb3)
  refine bodyPost_ret (v := .agg #[.int .i64 j.kind, .string j.name, .slice Av j.ends.length cv]) ?_ rfl ?_
  · simp [results, Try.results176, go_sem, hc3, hz]
  · refine ⟨.slice Av j.ends.length cv, rfl, ?_, ?_⟩
    · refine Kd.R_lower (base := w.heap.size + 3) ?_ (by omega)
      repeat (first | (with_reducible exact HV.out) | (with_reducible refine R_apart ?_ (by first | omega | (simp; done) | (simp; omega)) _))
    · repeat (first | (with_reducible exact HB3.out) | (with_reducible refine below_set ?_ (by first | omega | (simp; done))))
set_option maxRecDepth 100000 in
theorem toJointS_any (A : Option Addr) (c : Nat) (l : List JointT) (w : World) (hr : Kd.C (kJoint 65) w A l.length l) (hn : l.length ≤ 1048576) (hj : ∀ x ∈ l, x.ends.length ≤ 1048576) :
    Calls Try.prog 123 #[.slice A l.length c] w
      fun e w' => ∃ v, e = .returned v ∧ Kd.R (kJoint 67) 139 w' w.heap.size (fun _ => True) v l ∧ Below w.heap.size w w' := by
  have HR := Aside0.mk hr
  clear hr
  have HJ := Aside0.mk hj
  clear hj
  go_enter Try.func123, Try.ntmps123
  go_wp2_with ((with_reducible refine gate_dst (N := 7) rfl ?_); refine Kd.R_make (kJoint 67) _ 139 rfl (N := 7) rfl 33 _ _ rfl (l.length : Int) rfl rfl Try.underlying33 (.agg #[.int .i64 0, .string ⟨#[]⟩, .slice none 0 0]) 48 info139 rfl (by decide) (by decide) default (ok := fun _ => True) (okp := fun _ => True) (kJoint_mkM _ _ _ default (Kd.R_nil _ _ _ _ _)) (fun _ hk => hk) trivial (by omega) (by simp only [Int.toNat_natCast]; omega) (Below.refl _ _) (Nat.le_refl _) ?_; intro v1 w1 ho hb hg hnew; clear hg hnew; rw [Int.toNat_natCast] at ho)
  go_loopw [4] (fun v4 wr => ∃ i : Nat, v4 = .int .i64 i ∧ i ≤ l.length ∧ Aside0 (Kd.R (kJoint 67) 139 wr w.heap.size (fun _ => True) v1 (l.take i ++ List.replicate (l.length - i) default)) ∧ Aside0 (Below w.heap.size w wr)) (fun v4 _ => l.length - (intOf v4).toNat)
  case atStart => exact ⟨0, rfl, Nat.zero_le _, ⟨by simpa using ho⟩, ⟨hb⟩⟩
  case round =>
    clear ho hb
    obtain ⟨i, rfl, hi, HO, HB⟩ := hrel
    by_cases hlt : i < l.length
    · obtain ⟨ad0, B0, k0, e0, x0, x1, x2, m0, g0⟩ := at_Joint HR.out i hlt
      subst e0
      have HS := Aside0.mk (set_fill l i hlt)
      obtain ⟨g, cap, ev, hg1, hg2, _⟩ := Kd.R_form HO.out (by simp; omega)
      have hlen : (l.take i ++ List.replicate (l.length - i) (default : JointT)).length = l.length := by simp; omega
      rw [hlen] at ev
      subst ev
      clear hlen
      obtain ⟨p, hp⟩ : ∃ p, p = l.getD i default := ⟨_, rfl⟩
      rw [← hp] at x0 x1 x2 g0 m0 HS
      have HPM := Aside0.mk hp
      clear hp
      replace x0 := pw_cell_below HB.out x0
      replace x1 := pw_cell_below HB.out x1
      replace x2 := pw_cell_below HB.out x2
      have HG := Aside0.mk (Kd.C_below g0 HB.out)
      have HN := Aside0.mk (HJ.out p (by rw [HPM.out]; exact getD_mem l i hlt))
      clear g0 m0
      go_wp2_with (first | (go_at_call 176; refine (toJoint_any _ _ _ _ HG.out HN.out).mono ?_; rintro e w3 ⟨v3, rfl, hv3, hb3⟩; have H3 := Aside0.mk (Kd.R_below HO.out hb3); have HB3 := Aside0.mk (below_more HB.out hb3); have HV3 := Aside0.mk hv3; obtain ⟨Av, cv, rfl⟩ := Kd.R_slice hv3; clear hb3 hv3) | ((with_reducible refine gate_store (t := 139) (p := 21) rfl ?_); refine store_whole (kJoint 67) w.heap.size rfl rfl 139 _ _ rfl 139 i _ p _ default (fun _ => True) (fun k => wr.heap.size ≤ k) rfl rfl rfl (by kernel_rfl) H3.out hlt (kJoint_mkM _ _ _ p (Kd.R_lower (R_from HV3.out) (HB.out.size))) (fun k hk => ⟨trivial, by omega⟩) HB3.out ?_; intro w5 hR5 hB5 hG5; clear hG5 H3 HB3 HV3))
      go_roundw
      case rel => exact ⟨i + 1, by go_num, by omega, ⟨by rw [← HS.out]; exact hR5⟩, ⟨hB5⟩⟩
      case measure => simp [intOf]; omega
    · have e : l.take i ++ List.replicate (l.length - i) default = l := by
        rw [List.take_of_length_le (by omega), show l.length - i = 0 from by omega]; simp
      have HO2 := HO.out
      rw [e] at HO2
      have H2 := Aside0.mk HO2
      clear e HO2
      go_wp2
      go_ret
      exact ⟨v1, rfl, H2.out, HB.out⟩
theorem toNet_any (n : NetT) (u : (Option Addr × Nat) × (Option Addr × Nat)) (w : World) (hr : RdNet 65 w u n) (hp : n.pieces.length ≤ 1048576) (hj : n.joints.length ≤ 1048576) (he : ∀ x ∈ n.joints, x.ends.length ≤ 1048576) :
    Calls Try.prog 43 #[.agg #[.slice u.1.1 n.pieces.length u.1.2, .slice u.2.1 n.joints.length u.2.2]] w
      fun e w' => ∃ v1 v2, e = .returned (.agg #[v1, v2]) ∧ Kd.R kPiece 78 w' w.heap.size (fun _ => True) v1 n.pieces ∧ Kd.R (kJoint 67) 139 w' w.heap.size (fun _ => True) v2 n.joints ∧ Below w.heap.size w w' := by
  have HP := Aside0.mk hr.1.1
  have HJ := Aside0.mk hr.2.1
  clear hr
  obtain ⟨⟨A0, c0⟩, ⟨A1, c1⟩⟩ := u
  go_enter Try.func43, Try.ntmps43
  go_wp2_with (first | (go_at_call 122; refine (toPieceS_any _ _ _ _ (Kd.C_below HP.out (below_three _ _ _ _)) hp).mono ?_; rintro e w3 ⟨v, rfl, hv, hb3⟩; obtain ⟨hc3, hf3⟩ := bcell hb3; obtain ⟨Av, cv, rfl⟩ := Kd.R_slice hv; have HV := Aside0.mk (Kd.R_lower hv (show w.heap.size + 3 ≤ _ from by simp)); have HB3 := Aside0.mk (below_more (below_three w _ _ _) hb3); have hz := hb3.size; clear hv hb3))
  refine Calls.mono (toJointS_any _ _ _ _ ?_ hj he) ?_
  · exact Kd.C_below HJ.out (below_set HB3.out (by omega))
  rintro e w4 ⟨v, rfl, hv, hb4⟩
  obtain ⟨hc4, hf4⟩ := bcell hb4
  obtain ⟨Aj, cj, rfl⟩ := Kd.R_slice hv
  have hs : w.heap.size + 3 ≤ w3.heap.size := by simpa using hz
  have HV4 := Aside0.mk (Kd.R_lower hv (show w.heap.size + 3 ≤ _ from by simpa using hs))
  have HP4 := Aside0.mk (Kd.R_below (R_apart HV.out (p := ⟨w.heap.size + 2, 0, none⟩) (by simp) (.slice Av n.pieces.length cv)) hb4)
  have HB4 := Aside0.mk (below_more (below_set HB3.out (g := w.heap.size + 2) (by omega)) hb4)
  have hz4 := hb4.size
  clear hv hb4 HV HB3 hz
  have hs4 : w3.heap.size ≤ w4.heap.size := by simpa using hz4
  clear hz4
  have s0 : w.heap.size < w3.heap.size := by omega
  have s1 : w.heap.size + 1 < w3.heap.size := by omega
  have s2 : w.heap.size + 1 + 1 < w3.heap.size := by omega
  have s3 : w.heap.size + 2 < w3.heap.size := by omega
  go_wp2
  refine bodyPost_ret (v := .agg #[.slice Av n.pieces.length cv, .slice Aj n.joints.length cj]) ?_ rfl ?_
  · simp [results, Try.results43, go_sem, hc3, hc4, s0, s1, s2, s3]
  · refine ⟨.slice Av n.pieces.length cv, .slice Aj n.joints.length cj, rfl, ?_, ?_, ?_⟩
    · refine Kd.R_lower (base := w.heap.size + 3) ?_ (by omega)
      repeat (first | (with_reducible exact HP4.out) | (with_reducible refine R_apart ?_ (by first | omega | (simp; done) | (simp; omega)) _))
    · refine Kd.R_lower (base := w.heap.size + 3) ?_ (by omega)
      repeat (first | (with_reducible exact HV4.out) | (with_reducible refine R_apart ?_ (by first | omega | (simp; done) | (simp; omega)) _))
    · repeat (first | (with_reducible exact HB4.out) | (with_reducible refine below_set ?_ (by first | omega | (simp; done))))
end Go.Proofs.Ytckcffjnffcjcaa
