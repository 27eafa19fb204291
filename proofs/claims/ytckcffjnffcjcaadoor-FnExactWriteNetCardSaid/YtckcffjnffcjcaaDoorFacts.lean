/- Closed facts of the translated program, each in a declaration of its own (one alone would pass the memory's bound), and how they make up joinedFacts. Without conditions. -/
import Derived.Test.YtckcffjnffcjcaaDoorRows
import Derived.WalkKit
import Derived.ProofKit
namespace Go.Proofs.YtckcffjnffcjcaaDoor
theorem own : ownKnob Tryd.prog.godebug = none := by kernel_rfl
theorem laidOut : laidOutB Tryd.prog = true := by kernel_rfl
theorem mapsLaid : mapsRowed Tryd.prog = true := by kernel_rfl
theorem noStops : (Tryd.prog.stops == []) = true := by kernel_rfl
theorem noKnobs : (Tryd.prog.stopKnobs == []) = true := by kernel_rfl
theorem heard : Tryd.prog.stopsHeard = true := by kernel_rfl
/- The head row's words. wordsSigns by itself is quadratic in the row's length; a row put together out of words is cut into just these. -/
def blank : Char := Char.ofNat 32
def joinWords : List (List Char) → List Char
  | [] => []
  | [w] => w
  | w :: ws => w ++ blank :: joinWords ws
def plainWord (w : List Char) : Bool := w.all (fun c => c.toNat != 32)
theorem words_last (w : List Char) (h : plainWord w = true) : wordsSigns w = [w] := by
  induction w with
  | nil => rfl
  | cons c w ih =>
    simp only [plainWord, List.all_cons, Bool.and_eq_true] at h
    have hc : c ≠ Char.ofNat 32 := by rintro rfl; exact absurd h.1 (by decide)
    have e : wordsSigns (c :: w) = match wordsSigns w with | u :: us => (c :: u) :: us | [] => [[c]] := by
      rw [wordsSigns.eq_def]
      split
      · rename_i heq; cases heq
      · rename_i heq; injection heq with h1 _; exact absurd h1 hc
      · rename_i heq; injection heq with h1 h2; subst h1; subst h2; rfl
    rw [e, ih h.2]
theorem words_step (w r : List Char) (h : plainWord w = true) : wordsSigns (w ++ blank :: r) = w :: wordsSigns r := by
  induction w with
  | nil => rfl
  | cons c w ih =>
    simp only [plainWord, List.all_cons, Bool.and_eq_true] at h
    have hc : c ≠ Char.ofNat 32 := by rintro rfl; exact absurd h.1 (by decide)
    have e : wordsSigns (c :: (w ++ blank :: r)) = match wordsSigns (w ++ blank :: r) with | u :: us => (c :: u) :: us | [] => [[c]] := by
      rw [wordsSigns.eq_def]
      split
      · rename_i heq; cases heq
      · rename_i heq; injection heq with h1 _; exact absurd h1 hc
      · rename_i heq; injection heq with h1 h2; subst h1; subst h2; rfl
    rw [List.cons_append, e, ih h.2]
theorem words_join : ∀ (w : List Char) (ws : List (List Char)), (w :: ws).all plainWord = true → wordsSigns (joinWords (w :: ws)) = w :: ws
  | w, [], h => words_last w (by simpa using h)
  | w, u :: us, h => by
    simp only [List.all_cons, Bool.and_eq_true] at h
    have : joinWords (w :: u :: us) = w ++ blank :: joinWords (u :: us) := rfl
    rw [this, words_step w _ h.1, words_join u us (by simp only [List.all_cons, Bool.and_eq_true]; exact h.2)]
def cs (l : List Nat) : List Char := l.map Char.ofNat
def tailWords : List (List Char) := [cs [99, 117, 116], cs [97, 116], cs [108, 111, 111, 112, 46, 101, 120, 97, 109, 112, 108, 101, 47, 98, 97, 108, 108, 97, 115, 116, 47, 108, 97, 119, 115, 46, 70, 110, 69, 120, 97, 99, 116, 87, 114, 105, 116, 101, 78, 101, 116], cs [108, 111, 111, 112, 46, 101, 120, 97, 109, 112, 108, 101, 47, 98, 97, 108, 108, 97, 115, 116, 47, 108, 97, 119, 115, 46, 70, 110, 69, 120, 97, 99, 116, 82, 101, 97, 100, 78, 101, 116], cs [108, 111, 111, 112, 46, 101, 120, 97, 109, 112, 108, 101, 47, 98, 97, 108, 108, 97, 115, 116, 47, 108, 97, 119, 115, 46, 70, 110, 84, 101, 120, 116]]
def headWords : List (List Char) := cs [104, 97, 114, 110, 101, 115, 115] :: cs [49, 98, 48, 54, 102, 57, 56, 101, 56, 50, 51, 57, 49, 49, 57, 54, 99, 52, 102, 97, 102, 48, 100, 100, 53, 52, 56, 97, 52, 56, 51, 48, 55, 54, 100, 48, 51, 55, 102, 48, 54, 49, 57, 101, 48, 53, 50, 101, 56, 52, 56, 53, 52, 50, 48, 99, 52, 99, 100, 55, 57, 55, 98, 57] :: tailWords
theorem head_text : Tryd.prog.initOrder = String.ofList (joinWords headWords) := by kernel_rfl
theorem head_row : Tryd.prog.initOrder.toList = joinWords headWords := by rw [head_text, String.toList_ofList]
theorem head_plain : headWords.all plainWord = true := by kernel_rfl
theorem head_words : wordsSigns Tryd.prog.initOrder.toList = headWords := by rw [head_row]; exact words_join _ _ head_plain
theorem behind : behindMainWord headWords = tailWords := by
  have h : (if (cs [104, 97, 114, 110, 101, 115, 115] == ( "harness").toList || cs [104, 97, 114, 110, 101, 115, 115] == ( "ownmain").toList) && isSumSigns (cs [49, 98, 48, 54, 102, 57, 56, 101, 56, 50, 51, 57, 49, 49, 57, 54, 99, 52, 102, 97, 102, 48, 100, 100, 53, 52, 56, 97, 52, 56, 51, 48, 55, 54, 100, 48, 51, 55, 102, 48, 54, 49, 57, 101, 48, 53, 50, 101, 56, 52, 56, 53, 52, 50, 48, 99, 52, 99, 100, 55, 57, 55, 98, 57]) then tailWords else headWords) = tailWords := by rw [if_pos (by kernel_rfl)]
  exact h
def cutW : List Char := cs [99, 117, 116]
theorem cut_isnt (s : String) (h : (cutW == s.toList) = false) : (cutW == s.toList) = false := h
theorem strip_cut (rest : List (List Char)) : stripLifts liftWords (cutW :: rest) = ([], cutW :: rest) := by kernel_rfl
theorem enters_of {P : Program} {rest : List (List Char)} (h : behindMainWord (wordsSigns P.initOrder.toList) = cutW :: rest) (hd : P.doorFits [] = true) (hl : P.laysLater = false) (hb : P.bearsReflect = false) : P.mayEnter = true := by
  unfold Program.mayEnter
  rw [h]
  simp only [strip_cut, hd, hl, hb, List.head?_cons]
  kernel_rfl
theorem made_of {P : Program} {rest : List (List Char)} (h : behindMainWord (wordsSigns P.initOrder.toList) = cutW :: rest) : (P.make == some Make.cut) = true := by
  unfold Program.make
  rw [h]
  kernel_rfl
theorem notFinal_of {P : Program} {rest : List (List Char)} (h : behindMainWord (wordsSigns P.initOrder.toList) = cutW :: rest) : (false == P.liftsFinal) = true := by
  unfold Program.liftsFinal Program.headLifts
  rw [h]
  simp only [strip_cut, List.head?_cons]
  kernel_rfl
theorem tail_cut : tailWords = cutW :: tailWords.tail := rfl
theorem head_behind : behindMainWord (wordsSigns Tryd.prog.initOrder.toList) = cutW :: tailWords.tail := by rw [head_words, behind]; exact tail_cut
theorem enters : Tryd.prog.mayEnter = true := enters_of head_behind (by kernel_rfl) (by kernel_rfl) (by kernel_rfl)
theorem made : (Tryd.prog.make == some Make.cut) = true := made_of head_behind
theorem notFinal : (false == Tryd.prog.liftsFinal) = true := notFinal_of head_behind
theorem band {a b : Bool} (ha : a = true) (hb : b = true) : (a && b) = true := by rw [ha, hb]; rfl
theorem joined_of {f : FuncId} {fn : Func} {s : ChangeSpec} {c : OpenClaim} {P : Program} (k2 : laidOutB P = true) (k3 : mapsRowed P = true) (k7 : (P.stops == []) = true) (k9 : (P.stopKnobs == []) = true) (k23b : P.stopsHeard = true) (k24 : P.mayEnter = true) (k1 : c.wf (OpenSpec.ofChange s) = true) (k4 : fn.params.all (P.readableRec ·) = true) (k5 : namedTie P c.named s.vars = true) (k6 : (c.stops == []) = true) (k8 : (c.knobs == []) = true) (k10 : (c.inPlace == P.inPlace f) = true) (k11 : (c.unfollowed == P.unfollowed f) = true) (k12 : (c.recurses == P.recurses f) = true) (k13 : (c.named == P.varsNamed f) = true) (k14 : (c.maps == (fn.params.toList ++ s.plain.varTypes P).any (P.mapsRec ·)) = true) (k15 : (c.ifaces == (fn.params.toList ++ s.plain.varTypes P).any (P.ifacesRec ·)) = true) (k16 : (c.mapsOut == P.mapsAmong fn.resultTypes.toList) = true) (k17 : (c.loops == (fn.params.toList ++ s.plain.varTypes P).any (P.loopsFrom ·)) = true) (k17b : (c.wideKeys == (fn.params.toList ++ s.plain.varTypes P ++ fn.resultTypes.toList).any (P.wideKeysFrom ·)) = true) (k18 : s.vars.all (P.varReadable ·) = true) (k19 : fn.resultTypes.all (fun t => P.readableRec t && decide (t < P.types.size)) = true) (k20 : (c.ifacesOut == fn.resultTypes.toList.any (P.ifacesRec ·)) = true) (k21 : (c.loopsOut == fn.resultTypes.toList.any (P.loopsFrom ·)) = true) (k22 : (c.plainKeys == P.plainKeys) = true) (k23 : c.shortTexts.isNone = true) (k24b : (c.lifted == P.liftsFinal) = true) (k24c : (P.make == some c.make) = true) (k25 : (c.kinds == (if c.domain.isEmpty then [] else fn.params.toList.map fun t => match P.underlying t with | some (.int k) => some k | _ => none)) = true) (k26 : (c.pinned == c.pinnedBy) = true) (k27 : (c.veiled == (fn.params.toList ++ s.plain.varTypes P ++ fn.resultTypes.toList).any (P.veiledRec ·)) = true) (k28 : c.veiledFits P fn.params.toList (fn.params.toList ++ s.plain.varTypes P ++ fn.resultTypes.toList) = true) : joinedFacts P f fn s c = true :=
  band (band (band (band (band (band (band (band (band (band (band (band (band (band (band (band (band (band (band (band (band (band (band (band (band (band (band (band (band (band (band (k1) k2) k3) k4) k5) k6) k7) k8) k9) k10) k11) k12) k13) k14) k15) k16) k17) k17b) k18) k19) k20) k21) k22) k23) k23b) k24) k24b) k24c) k25) k26) k27) k28
end Go.Proofs.YtckcffjnffcjcaaDoor
