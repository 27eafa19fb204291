/- Contracts of l2decimal and of the drawn names. Conditions: the number is from 0 to 1000000000. -/
import Derived.Test.YtckcffjnffcjcaaGen1
import Derived.Lib.ConvBytes
set_option linter.unusedVariables false
set_option linter.unusedSimpArgs false
namespace Go.Proofs.Ytckcffjnffcjcaa
open Go.RowKit Go.WideShapes Go.Proofs.YtckcffjnffcjcaaW.PrintWords
theorem decF_zero (f : Nat) (r : List UInt8) : decF f 0 r = r := by cases f <;> simp [decF]
theorem bytes_cons (x : UInt8) (r : List UInt8) : (⟨#[x]⟩ : ByteArray) ++ ⟨r.toArray⟩ = ⟨(x :: r).toArray⟩ := bytes_inj (by simp)
/-- string([]byte{d}). -/
theorem one_byte (w : World) (d : Int) (m : Nat) (hd : d = (m : Int)) : (convert 31 9 (.slice (some ⟨w.heap.size, 0, none⟩) 1 1)).run Try.prog (w.alloc (.cells #[.int .u8 d] 5)) = .ok (.string ⟨#[UInt8.ofNat m]⟩) (w.alloc (.cells #[.int .u8 d] 5)) := by
  have h : ReadsInt (w.alloc (.cells #[.int .u8 d] 5)) .u8 (some ⟨w.heap.size, 0, none⟩) 1 [d] := ⟨rfl, by omega, fun _ => ⟨_, rfl, fun j hj => by
    have e : j = 0 := by omega
    subst e
    exact (Bx.new w [.int .u8 d] 5).c 0 _ rfl⟩⟩
  have := string_of_reads (c := 1) Try.underlying31 Try.underlying5 Try.underlying9 h
  rw [this]
  subst hd
  rfl
theorem one_byte_at {W : World} {g : Nat} (d : Int) (m : Nat) (hd : d = (m : Int)) (hx : Bx W g [.int .u8 d]) : (convert 31 9 (.slice (some ⟨g, 0, none⟩) 1 1)).run Try.prog W = .ok (.string ⟨#[UInt8.ofNat m]⟩) W := by
  have h : ReadsInt W .u8 (some ⟨g, 0, none⟩) 1 [d] := ⟨rfl, by omega, fun _ => ⟨_, rfl, fun j hj => by
    have e : j = 0 := by omega
    subst e
    exact hx.c 0 _ rfl⟩⟩
  have := string_of_reads (c := 1) Try.underlying31 Try.underlying5 Try.underlying9 h
  rw [this]
  subst hd
  rfl
set_option maxRecDepth 100000 in
set_option maxHeartbeats 2000000 in
theorem dec_any (n : Nat) (w : World) (hn : n ≤ 1000000000) :
    Calls Try.prog 189 #[.int .i64 (n : Int)] w fun e w' => e = .returned (.string ⟨(decL n).toArray⟩) ∧ Below w.heap.size w w' := by
  by_cases h0 : n = 0
  · subst h0
    go_enter Try.func189, Try.ntmps189
    go_wp2
    go_ret
    exact ⟨rfl, Below.refl _ _⟩
  · have hz : ((n : Int) == 0) = false := by simp; omega
    have HV : Aside0 (decL n = decF n n []) := ⟨by unfold decL; rw [if_neg h0]⟩
    clear h0
    go_enter Try.func189, Try.ntmps189
    go_wp2
    go_loopw [0, 3] (fun v0 v3 wr => ∃ (m f : Nat) (r : List UInt8), v0 = .int .i64 (m : Int) ∧ v3 = .string ⟨r.toArray⟩ ∧ m ≤ n ∧ m ≤ f ∧ r.length + m ≤ n ∧ Aside0 (decF f m r = decL n) ∧ Aside0 (Below w.heap.size w wr)) (fun v0 _ _ => (intOf v0).toNat)
    case atStart => exact ⟨n, n, [], rfl, rfl, Nat.le_refl _, Nat.le_refl _, by simp, ⟨HV.out.symm⟩, ⟨Below.refl _ _⟩⟩
    case round =>
      obtain ⟨m, f, r, rfl, rfl, hm, hf, hrl, HD, HB⟩ := hrel
      by_cases hp : 0 < m
      · have hb := one_byte wr (48 + (m : Int) % 10) (48 + m % 10) (by omega)
        go_wp2
        go_roundw
        case rel =>
          obtain ⟨f, rfl⟩ : ∃ f', f = f' + 1 := ⟨f - 1, by omega⟩
          refine ⟨m / 10, f, (48 + UInt8.ofNat (m % 10)) :: r, by go_num, congrArg Value.string (bytes_cons _ _), by omega, by omega, by simp; omega, ⟨?_⟩, ⟨below_alloc HB.out _⟩⟩
          rw [← HD.out]
          show _ = (if m = 0 then r else _)
          rw [if_neg (by omega)]
        case measure => simp [intOf]; omega
      · go_wp2
        go_ret
        have e : m = 0 := by omega
        subst e
        refine ⟨by rw [← HD.out, decF_zero]; rfl, HB.out⟩
theorem decF_len : ∀ (f n : Nat) (r : List UInt8), (decF f n r).length ≤ r.length + n
  | 0, n, r => by simp [decF]
  | f + 1, n, r => by
    simp only [decF]
    split
    · omega
    · have := decF_len f (n / 10) ((48 + UInt8.ofNat (n % 10)) :: r)
      simp only [List.length_cons] at this
      omega
theorem decL_len (n : Nat) : (decL n).length ≤ n + 1 := by
  unfold decL
  split
  · simp
  · have := decF_len n n []
    simp at this
    omega
set_option maxRecDepth 100000 in
set_option maxHeartbeats 2000000 in
theorem name_any (b i : Nat) (w : World) (hi : i ≤ 1000) :
    Calls Try.prog 167 #[.pointer (some ⟨b, 0, none⟩), .int .i64 (i : Int)] w fun e w' => e = .returned (.string (nameG i)) ∧ Below w.heap.size w w' := by
  have hl := decL_len i
  go_enter Try.func167, Try.ntmps167
  go_wp2
  obtain ⟨d, hd⟩ : ∃ d : Int, d = 97 + (i : Int) % 26 := ⟨_, rfl⟩
  have e1 : IntKind.u8.wrap (IntKind.i64.wrap (97 + ((i : Int)).tmod 26)) = d := by
    have h1 : ((i : Int)).tmod 26 = (i : Int) % 26 := Int.tmod_eq_emod_of_nonneg (by omega)
    have h2 : IntKind.i64.wrap (97 + (i : Int) % 26) = 97 + (i : Int) % 26 := wrap64 (by omega) (by omega)
    have h3 : IntKind.u8.wrap (97 + (i : Int) % 26) = (97 + (i : Int) % 26) % 256 := rfl
    rw [h1, h2, h3, hd]
    omega
  have HD := Aside0.mk (show d = ((97 + i % 26 : Nat) : Int) by omega)
  clear hd
  have hq : ∀ W : World, (convert 31 9 (.slice (some ⟨W.heap.size, 0, none⟩) 1 1)).run Try.prog (W.alloc (.cells #[.int .u8 d] 5)).drew = .ok (.string ⟨#[UInt8.ofNat (97 + i % 26)]⟩) (W.alloc (.cells #[.int .u8 d] 5)).drew := fun W => one_byte_at _ _ HD.out (Bx.drew (Bx.new W [.int .u8 d] 5))
  have hq' : ∀ W : World, (convert 31 9 (.slice (some ⟨W.heap.size, 0, none⟩) 1 1)).run Try.prog (W.alloc (.cells #[.int .u8 d] 5)) = .ok (.string ⟨#[UInt8.ofNat (97 + i % 26)]⟩) (W.alloc (.cells #[.int .u8 d] 5)) := fun W => one_byte_at _ _ HD.out (Bx.new W [.int .u8 d] 5)
  go_region_with (first | (go_at_call 189; refine (dec_any i _ (by omega)).mono ?_; rintro e w3 ⟨rfl, b3⟩; (first | (have hq3 := one_byte_at _ _ HD.out ((Bx.drew (Bx.new _ [.int .u8 d] 5)).below b3)) | skip)))
  all_goals
    try go_wp2
    go_ret
    refine ⟨?_, ?_⟩
    · refine congrArg (fun v => Ending.returned (Value.string v)) ?_
      unfold nameG nameL
      rw [← bytes_cons]
      first | rfl | simp
    · repeat (first | (with_reducible exact Below.refl _ _) | (with_reducible exact b3) | (with_reducible refine below_more ?_ b3) | (with_reducible refine below_drewN' ?_ _) | (with_reducible refine below_drew ?_) | (with_reducible refine below_alloc ?_ _))
end Go.Proofs.Ytckcffjnffcjcaa
