/- The kinds of keys of the program's maps: strings, whole numbers, structs of whole numbers. No conditions. -/
import Derived.Test.YtckcffjnffcjcaaMaps
import Derived.Test.YtckcffjnffcjcaaWEqStruct
set_option linter.unusedVariables false
namespace Go.Proofs.Ytckcffjnffcjcaa
open Go.RowKit Go.Proofs.YtckcffjnffcjcaaW.PrintWords
theorem eqf_cons' {P : Program} {d : Nat} {xs ys : Array Value} {f : Field} {fs : List Field} {a b : Value} {r s : Bool} {w : World} (hn : (f.name == "_") = false) (ha : (part f.type xs f.offset).run P w = .ok a w) (hb : (part f.type ys f.offset).run P w = .ok b w) (he : (Op.equalIn d f.type a b).run P w = .ok r w) (hr : (Op.eqFields d xs ys fs).run P w = .ok s w) : (Op.eqFields d xs ys (f :: fs)).run P w = .ok (r && s) w := eqf_cons hn ha hb he hr
def keyInt : KeyEnc Try.prog Int where
  t := 3
  kind := .int .i64
  enc := .int .i64
  hk := Try.underlying3
  inj := fun a b h => by injection h
  same := fun a => by simp [Instr.sameBits]
  chk := fun e a w => by kernel_rfl
  find := find_of_eq (fun a b => a == b) (fun a b => beq_iff_eq) (.inl fun a b => by simp [Instr.sameNow]) (fun a b w => by unfold Op.equal Op.maxDepth; exact run_equalIn_int w 9999 3 .i64 .i64 a b Try.underlying3)
def keyStr : KeyEnc Try.prog ByteArray where
  t := 9
  kind := .string
  enc := .string
  hk := Try.underlying9
  inj := fun a b h => by injection h
  same := fun a => by simp [Instr.sameBits, beq_toListBytes]
  chk := fun e a w => by kernel_rfl
  find := find_of_eq (fun a b => a.toList == b.toList) (fun a b => by rw [beq_iff_eq]; exact toList_inj) (.inl fun a b => by simp [Instr.sameNow, beq_toListBytes]) (fun a b w => by unfold Op.equal Op.maxDepth; exact run_equalIn_string w 9999 9 a b Try.underlying9)

theorem eq_keyEnd (a b : EndT) (w : World) : (Op.equal 67 (.agg #[.int .i64 a.piece, .int .i64 a.side]) (.agg #[.int .i64 b.piece, .int .i64 b.side])).run Try.prog w = .ok (((a.piece == b.piece) && (a.side == b.side))) w := by
  unfold Op.equal Op.maxDepth
  exact eqA_of Try.underlying67 (by kernel_rfl) (eqf_cons' (by kernel_rfl) (by kernel_rfl) (by kernel_rfl) (run_equalIn_int w 9998 3 .i64 .i64 a.piece b.piece Try.underlying3) (eqf_last (by kernel_rfl) (by kernel_rfl) (by kernel_rfl) (run_equalIn_int w 9998 3 .i64 .i64 a.side b.side Try.underlying3)))
def keyEnd : KeyEnc Try.prog EndT where
  t := 67
  kind := _
  enc := fun x => .agg #[.int .i64 x.piece, .int .i64 x.side]
  hk := Try.underlying67
  inj := fun a b h => by
    injection h with h
    have := congrArg Array.toList h
    simp at this
    exact EndT.ext_iff.1 this
  same := fun a => by simp [Instr.sameBits]
  chk := fun e a w => by kernel_rfl
  find := find_of_eq (fun a b => ((a.piece == b.piece) && (a.side == b.side))) (fun a b => by simp only [Bool.and_eq_true, beq_iff_eq]; exact EndT.ext_iff) (.inr fun a b => by simp [Instr.sameNow]) (fun a b w => eq_keyEnd a b w)

theorem eq_keyStep (a b : StepT) (w : World) : (Op.equal 85 (.agg #[.int .i64 a.piece, .int .i64 a.way]) (.agg #[.int .i64 b.piece, .int .i64 b.way])).run Try.prog w = .ok (((a.piece == b.piece) && (a.way == b.way))) w := by
  unfold Op.equal Op.maxDepth
  exact eqA_of Try.underlying85 (by kernel_rfl) (eqf_cons' (by kernel_rfl) (by kernel_rfl) (by kernel_rfl) (run_equalIn_int w 9998 3 .i64 .i64 a.piece b.piece Try.underlying3) (eqf_last (by kernel_rfl) (by kernel_rfl) (by kernel_rfl) (run_equalIn_int w 9998 3 .i64 .i64 a.way b.way Try.underlying3)))
def keyStep : KeyEnc Try.prog StepT where
  t := 85
  kind := _
  enc := fun x => .agg #[.int .i64 x.piece, .int .i64 x.way]
  hk := Try.underlying85
  inj := fun a b h => by
    injection h with h
    have := congrArg Array.toList h
    simp at this
    exact StepT.ext_iff.1 this
  same := fun a => by simp [Instr.sameBits]
  chk := fun e a w => by kernel_rfl
  find := find_of_eq (fun a b => ((a.piece == b.piece) && (a.way == b.way))) (fun a b => by simp only [Bool.and_eq_true, beq_iff_eq]; exact StepT.ext_iff) (.inr fun a b => by simp [Instr.sameNow]) (fun a b w => eq_keyStep a b w)

theorem eq_keySpot (a b : SpotT) (w : World) : (Op.equal 38 (.agg #[.int .i64 a.piece, .int .i64 a.at_, .int .i64 a.way]) (.agg #[.int .i64 b.piece, .int .i64 b.at_, .int .i64 b.way])).run Try.prog w = .ok (((a.piece == b.piece) && ((a.at_ == b.at_) && (a.way == b.way)))) w := by
  unfold Op.equal Op.maxDepth
  exact eqA_of Try.underlying38 (by kernel_rfl) (eqf_cons' (by kernel_rfl) (by kernel_rfl) (by kernel_rfl) (run_equalIn_int w 9998 3 .i64 .i64 a.piece b.piece Try.underlying3) (eqf_cons' (by kernel_rfl) (by kernel_rfl) (by kernel_rfl) (run_equalIn_int w 9998 3 .i64 .i64 a.at_ b.at_ Try.underlying3) (eqf_last (by kernel_rfl) (by kernel_rfl) (by kernel_rfl) (run_equalIn_int w 9998 3 .i64 .i64 a.way b.way Try.underlying3))))
def keySpot : KeyEnc Try.prog SpotT where
  t := 38
  kind := _
  enc := fun x => .agg #[.int .i64 x.piece, .int .i64 x.at_, .int .i64 x.way]
  hk := Try.underlying38
  inj := fun a b h => by
    injection h with h
    have := congrArg Array.toList h
    simp at this
    exact SpotT.ext_iff.1 this
  same := fun a => by simp [Instr.sameBits]
  chk := fun e a w => by kernel_rfl
  find := find_of_eq (fun a b => ((a.piece == b.piece) && ((a.at_ == b.at_) && (a.way == b.way)))) (fun a b => by simp only [Bool.and_eq_true, beq_iff_eq]; exact SpotT.ext_iff) (.inr fun a b => by simp [Instr.sameNow]) (fun a b w => eq_keySpot a b w)

end Go.Proofs.Ytckcffjnffcjcaa
