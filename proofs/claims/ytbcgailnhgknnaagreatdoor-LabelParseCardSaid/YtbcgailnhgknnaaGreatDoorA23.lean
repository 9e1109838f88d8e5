/- Proved here: what functions on this claim's road compute, each as a contract over the seat's program. Conditions: each theorem's own premises. -/
import Derived.Test.YtbcgailnhgknnaaGreatDoorA16
import Derived.Test.YtbcgailnhgknnaaGreatDoorA01
import Derived.Test.YtbcgailnhgknnaaGreatDoorA19
import Derived.Test.YtbcgailnhgknnaaGreatDoorA21
import Derived.Test.YtbcgailnhgknnaaGreatDoorA22
namespace Go.Proofs.YtbcgailnhgknnaaGreatDoor.PLabelParse
open Go.Proofs.YtbcgailnhgknnaaGreatDoorU8 Go.RowKit Go.Proofs.YtbcgailnhgknnaaGreatDoorW.PrintWords Go.Proofs.YtbcgailnhgknnaaGreatDoorW.PrintLast Go.Proofs.YtbcgailnhgknnaaGreatDoorW.PrintMore
attribute [local go_sem] max2_int min2_int max_two min_two max_three min_three max_four min_four   -- for this text's walks alone
set_option linter.unusedVariables false
set_option linter.unusedSimpArgs false
def jtok_Quote.f (a0 : ByteArray) : Option (ByteArray × Int) := (utf_Valid.f a0).bind fun b => if b = true then (if a0.size ≤ 1099511627776 then some (quoteS a0, 0) else none) else some ((⟨#[]⟩ : ByteArray), 3)
theorem hex_PutHex (n : Int) (h0 : 0 ≤ n) (h1 : n < 16) : num_PutHex.f 4 n = some ⟨#[hexd n]⟩ := by
  obtain ⟨m, rfl⟩ := Int.eq_ofNat_of_zero_le h0
  have hm : m < 16 := by omega
  have : ∀ k : Fin 16, num_PutHex.f 4 (k.val : Int) = some ⟨#[hexd (k.val : Int)]⟩ := by decide +kernel
  exact this ⟨m, hm⟩
set_option maxHeartbeats 1000000 in
set_option maxRecDepth 100000 in
theorem jtok_Quote.calls (a0 : ByteArray) (r1 : ByteArray) (r2 : Int) (w : World) (h : jtok_Quote.f a0 = some (r1, r2)) :
    Calls Tryz.prog 32 #[.string a0] w fun e w' => e = .returned (.tuple #[.string r1, .int .i64 r2]) ∧ Below w.heap.size w w' := by
  unfold jtok_Quote.f at h
  obtain ⟨b, hb, h⟩ := Option.bind_eq_some_iff.1 h
  have HBV := Aside0.mk hb
  have H := Aside0.mk h
  clear h hb
  go_enter Tryz.func32, Tryz.ntmps32
  have hl0 : (Below w.heap.size w (w.alloc (.cells #[.pointer none, .slice none 0 0] 60))) := (Below.refl _ w).alloc (Nat.le_refl _) _
  have HF := Aside0.mk (Lib.fresh_isBuilder 60 5 w)
  have HL0 := Aside0.mk hl0
  clear hl0
  cases b with
  | false =>
    go_wp2_with (go_at_call 26; refine (utf_Valid.calls a0 _ _ HBV.out).mono ?_; rintro e w1 ⟨rfl, hB1⟩)
    go_ret2
    have H2 := H.out
    simp only [Bool.false_eq_true, if_false, Option.some.injEq, Prod.mk.injEq] at H2
    obtain ⟨rfl, rfl⟩ := H2
    exact ⟨rfl, HL0.out.trans (hB1.mono HL0.out.size)⟩
  | true =>
    have H2 := H.out
    simp only [if_true] at H2
    split at H2
    case isFalse => cases H2
    rename_i hm
    simp only [Option.some.injEq, Prod.mk.injEq] at H2
    obtain ⟨rfl, rfl⟩ := H2
    have HM := Aside0.mk hm
    clear H hm
    go_wp2_with (go_at_call 26; refine (utf_Valid.calls a0 _ _ HBV.out).mono ?_; rintro e w1 ⟨rfl, hB1⟩)
    have HF1 := Aside0.mk (isBuilder_below HF.out hB1)
    have HL1 := Aside0.mk (HL0.out.trans (hB1.mono HL0.out.size))
    clear hB1
    go_wp2_with (go_at_call 31; refine (strings_Builder_WriteByte.own w.heap.size w.heap.size [] 34 w1 HF1.out (by simp) HL1.out.size).mono ?_; rintro e w2 ⟨rfl, hI2, hB2⟩)
    have HI2 := Aside0.mk (show Lib.BuilderAt 60 5 w.heap.size w.heap.size _ (Lib.byteCells (34 :: qL (a0.data.toList.take 0))) w2 from hI2)
    have HL2 := Aside0.mk (HL1.out.trans hB2)
    clear hI2 hB2
    clear HF HF1 HL0
    go_wp2
    go_loopw [14] (fun at_ wr => ∃ i : Nat, i ≤ a0.size ∧ at_ = .int .i64 i ∧ Aside0 (Lib.BuilderAt 60 5 w.heap.size w.heap.size (.pointer (some ⟨w.heap.size, 0, none⟩)) (Lib.byteCells (34 :: qL (a0.data.toList.take i))) wr) ∧ Aside0 (Below w.heap.size w wr)) (fun at_ _ => a0.size - (intOf at_).toNat)
    case atStart => exact ⟨0, Nat.zero_le _, rfl, HI2, HL2⟩
    case round =>
      clear HI2 HL2 HL1
      obtain ⟨i, hi, rfl, HI, HL⟩ := hrel
      by_cases hlt : i < a0.size
      · have hx6 : ∀ hq : i < a0.size, ((a0[i]'hq).toNat : Int) = bt a0 (i : Int) := fun hq => bt_at a0 (i : Int) hq
        have hr := bt_range a0 (i : Int)
        have HQ := Aside0.mk (qL_take a0 i hlt)
        have HIX := Aside0.mk (qIx (bt a0 (i : Int)) hr.1 hr.2)
        have hlen : (qL (a0.data.toList.take i)).length ≤ 6 * i := Nat.le_trans (qL_len _) (Nat.mul_le_mul_left 6 (by simp; omega))
        have HLEN := Aside0.mk hlen
        have HM' := HM.out
        generalize hc : bt a0 (i : Int) = c at *
        have HC := Aside0.mk hc
        clear hc hlen
        generalize hL : qL (a0.data.toList.take i) = L at *
        have hib : ∀ wx : World, Calls Tryz.prog 53 #[.string (⟨#[8, 12, 10, 13, 9]⟩ : ByteArray), .int .u8 c] wx fun e w' => e = .returned (.int .i64 (if c = 8 then 0 else if c = 12 then 1 else if c = 10 then 2 else if c = 13 then 3 else if c = 9 then 4 else -1)) ∧ w' = wx := fun wx => by
          rw [← HIX.out]
          exact Tryz.strings_IndexByte (⟨#[8, 12, 10, 13, 9]⟩ : ByteArray) c wx
        clear HIX
        have HIB := Aside0.mk hib
        clear hib hL
        by_cases c8 : c = 8
        · subst c8
          simp only [Int.reduceEq, reduceIte, if_true, if_false] at HIB
          go_wp2_with (go_at_call 53; refine (HIB.out _).mono ?_; rintro e w' ⟨rfl, rfl⟩)
          have HW := Aside0.mk (strings_Builder_WriteByte.own w.heap.size w.heap.size (Lib.byteCells (34 :: L)) (92) _ (Or.inr HI.out) (by rw [Lib.byteCells_length]; simp; have := HLEN.out; omega) HL.out.size)
          go_wp2_with (go_at_call 31; with_reducible refine HW.out.mono ?_; rintro e w' ⟨rfl, hI', hB'⟩)
          have HI1 := Aside0.mk (builder_snoc hI' (by decide) (by decide))
          have HL1 := Aside0.mk (HL.out.trans hB')
          clear hI' hB' HI HL HW
          have HW := Aside0.mk (strings_Builder_WriteByte.own w.heap.size w.heap.size (Lib.byteCells ((34 :: L) ++ [(92 : Int).toNat.toUInt8])) (98) _ (Or.inr HI1.out) (by rw [Lib.byteCells_length]; simp; have := HLEN.out; omega) HL1.out.size)
          go_wp2_with (go_at_call 31; change Calls _ _ #[.pointer (some ⟨w.heap.size, 0, none⟩), .int .u8 98] _ _; with_reducible refine HW.out.mono ?_; rintro e w' ⟨rfl, hI', hB'⟩)
          have HI2 := Aside0.mk (builder_snoc hI' (by decide) (by decide))
          have HL2 := Aside0.mk (HL1.out.trans hB')
          clear hI' hB' HI1 HL1 HW
          refine ⟨⟨i + 1, by omega, by go_num, ⟨?_⟩, HL2⟩, by simp [intOf]; omega⟩
          have hz := HI2.out
          rw [HQ.out]
          simpa [qB] using hz
        by_cases c12 : c = 12
        · subst c12
          simp only [Int.reduceEq, reduceIte, if_true, if_false] at HIB
          go_wp2_with (go_at_call 53; refine (HIB.out _).mono ?_; rintro e w' ⟨rfl, rfl⟩)
          have HW := Aside0.mk (strings_Builder_WriteByte.own w.heap.size w.heap.size (Lib.byteCells (34 :: L)) (92) _ (Or.inr HI.out) (by rw [Lib.byteCells_length]; simp; have := HLEN.out; omega) HL.out.size)
          go_wp2_with (go_at_call 31; with_reducible refine HW.out.mono ?_; rintro e w' ⟨rfl, hI', hB'⟩)
          have HI1 := Aside0.mk (builder_snoc hI' (by decide) (by decide))
          have HL1 := Aside0.mk (HL.out.trans hB')
          clear hI' hB' HI HL HW
          have HW := Aside0.mk (strings_Builder_WriteByte.own w.heap.size w.heap.size (Lib.byteCells ((34 :: L) ++ [(92 : Int).toNat.toUInt8])) (102) _ (Or.inr HI1.out) (by rw [Lib.byteCells_length]; simp; have := HLEN.out; omega) HL1.out.size)
          go_wp2_with (go_at_call 31; change Calls _ _ #[.pointer (some ⟨w.heap.size, 0, none⟩), .int .u8 102] _ _; with_reducible refine HW.out.mono ?_; rintro e w' ⟨rfl, hI', hB'⟩)
          have HI2 := Aside0.mk (builder_snoc hI' (by decide) (by decide))
          have HL2 := Aside0.mk (HL1.out.trans hB')
          clear hI' hB' HI1 HL1 HW
          refine ⟨⟨i + 1, by omega, by go_num, ⟨?_⟩, HL2⟩, by simp [intOf]; omega⟩
          have hz := HI2.out
          rw [HQ.out]
          simpa [qB] using hz
        by_cases c10 : c = 10
        · subst c10
          simp only [Int.reduceEq, reduceIte, if_true, if_false] at HIB
          go_wp2_with (go_at_call 53; refine (HIB.out _).mono ?_; rintro e w' ⟨rfl, rfl⟩)
          have HW := Aside0.mk (strings_Builder_WriteByte.own w.heap.size w.heap.size (Lib.byteCells (34 :: L)) (92) _ (Or.inr HI.out) (by rw [Lib.byteCells_length]; simp; have := HLEN.out; omega) HL.out.size)
          go_wp2_with (go_at_call 31; with_reducible refine HW.out.mono ?_; rintro e w' ⟨rfl, hI', hB'⟩)
          have HI1 := Aside0.mk (builder_snoc hI' (by decide) (by decide))
          have HL1 := Aside0.mk (HL.out.trans hB')
          clear hI' hB' HI HL HW
          have HW := Aside0.mk (strings_Builder_WriteByte.own w.heap.size w.heap.size (Lib.byteCells ((34 :: L) ++ [(92 : Int).toNat.toUInt8])) (110) _ (Or.inr HI1.out) (by rw [Lib.byteCells_length]; simp; have := HLEN.out; omega) HL1.out.size)
          go_wp2_with (go_at_call 31; change Calls _ _ #[.pointer (some ⟨w.heap.size, 0, none⟩), .int .u8 110] _ _; with_reducible refine HW.out.mono ?_; rintro e w' ⟨rfl, hI', hB'⟩)
          have HI2 := Aside0.mk (builder_snoc hI' (by decide) (by decide))
          have HL2 := Aside0.mk (HL1.out.trans hB')
          clear hI' hB' HI1 HL1 HW
          refine ⟨⟨i + 1, by omega, by go_num, ⟨?_⟩, HL2⟩, by simp [intOf]; omega⟩
          have hz := HI2.out
          rw [HQ.out]
          simpa [qB] using hz
        by_cases c13 : c = 13
        · subst c13
          simp only [Int.reduceEq, reduceIte, if_true, if_false] at HIB
          go_wp2_with (go_at_call 53; refine (HIB.out _).mono ?_; rintro e w' ⟨rfl, rfl⟩)
          have HW := Aside0.mk (strings_Builder_WriteByte.own w.heap.size w.heap.size (Lib.byteCells (34 :: L)) (92) _ (Or.inr HI.out) (by rw [Lib.byteCells_length]; simp; have := HLEN.out; omega) HL.out.size)
          go_wp2_with (go_at_call 31; with_reducible refine HW.out.mono ?_; rintro e w' ⟨rfl, hI', hB'⟩)
          have HI1 := Aside0.mk (builder_snoc hI' (by decide) (by decide))
          have HL1 := Aside0.mk (HL.out.trans hB')
          clear hI' hB' HI HL HW
          have HW := Aside0.mk (strings_Builder_WriteByte.own w.heap.size w.heap.size (Lib.byteCells ((34 :: L) ++ [(92 : Int).toNat.toUInt8])) (114) _ (Or.inr HI1.out) (by rw [Lib.byteCells_length]; simp; have := HLEN.out; omega) HL1.out.size)
          go_wp2_with (go_at_call 31; change Calls _ _ #[.pointer (some ⟨w.heap.size, 0, none⟩), .int .u8 114] _ _; with_reducible refine HW.out.mono ?_; rintro e w' ⟨rfl, hI', hB'⟩)
          have HI2 := Aside0.mk (builder_snoc hI' (by decide) (by decide))
          have HL2 := Aside0.mk (HL1.out.trans hB')
          clear hI' hB' HI1 HL1 HW
          refine ⟨⟨i + 1, by omega, by go_num, ⟨?_⟩, HL2⟩, by simp [intOf]; omega⟩
          have hz := HI2.out
          rw [HQ.out]
          simpa [qB] using hz
        by_cases c9 : c = 9
        · subst c9
          simp only [Int.reduceEq, reduceIte, if_true, if_false] at HIB
          go_wp2_with (go_at_call 53; refine (HIB.out _).mono ?_; rintro e w' ⟨rfl, rfl⟩)
          have HW := Aside0.mk (strings_Builder_WriteByte.own w.heap.size w.heap.size (Lib.byteCells (34 :: L)) (92) _ (Or.inr HI.out) (by rw [Lib.byteCells_length]; simp; have := HLEN.out; omega) HL.out.size)
          go_wp2_with (go_at_call 31; with_reducible refine HW.out.mono ?_; rintro e w' ⟨rfl, hI', hB'⟩)
          have HI1 := Aside0.mk (builder_snoc hI' (by decide) (by decide))
          have HL1 := Aside0.mk (HL.out.trans hB')
          clear hI' hB' HI HL HW
          have HW := Aside0.mk (strings_Builder_WriteByte.own w.heap.size w.heap.size (Lib.byteCells ((34 :: L) ++ [(92 : Int).toNat.toUInt8])) (116) _ (Or.inr HI1.out) (by rw [Lib.byteCells_length]; simp; have := HLEN.out; omega) HL1.out.size)
          go_wp2_with (go_at_call 31; change Calls _ _ #[.pointer (some ⟨w.heap.size, 0, none⟩), .int .u8 116] _ _; with_reducible refine HW.out.mono ?_; rintro e w' ⟨rfl, hI', hB'⟩)
          have HI2 := Aside0.mk (builder_snoc hI' (by decide) (by decide))
          have HL2 := Aside0.mk (HL1.out.trans hB')
          clear hI' hB' HI1 HL1 HW
          refine ⟨⟨i + 1, by omega, by go_num, ⟨?_⟩, HL2⟩, by simp [intOf]; omega⟩
          have hz := HI2.out
          rw [HQ.out]
          simpa [qB] using hz
        simp only [if_neg c8, if_neg c12, if_neg c10, if_neg c13, if_neg c9] at HIB
        by_cases c32 : c < 32
        · have c32b : decide (c < 32) = true := decide_eq_true c32
          go_wp2_with (go_at_call 53; refine (HIB.out _).mono ?_; rintro e w' ⟨rfl, rfl⟩)
          have HP1 := Aside0.mk (fun wx => num_PutHex.calls 4 (c / 16) _ wx (hex_PutHex (c / 16) (by have := hr.1; omega) (by have := hr.1; omega)))
          have HP2 := Aside0.mk (fun wx => num_PutHex.calls 4 (c % 16) _ wx (hex_PutHex (c % 16) (by have := hr.1; omega) (by have := hr.1; omega)))
          go_wp2_with (go_at_call 54; with_reducible refine (HP1.out _).mono ?_; rintro e wa ⟨rfl, ⟨n1, rfl⟩⟩)
          go_wp2_with (go_at_call 54; with_reducible refine (HP2.out _).mono ?_; rintro e wb ⟨rfl, ⟨n2, rfl⟩⟩)
          have HI0 := Aside0.mk (builder_drewN HI.out (n1 + n2))
          have HL0 := Aside0.mk (below_drewN HL.out (n1 + n2))
          have HW := Aside0.mk (strings_Builder_WriteString.own w.heap.size w.heap.size (Lib.byteCells (34 :: L)) (((⟨#[92, 117, 48, 48]⟩ : ByteArray) ++ ⟨#[hexd (c / 16)]⟩) ++ ⟨#[hexd (c % 16)]⟩) _ (Or.inr HI0.out) (by rw [Lib.byteCells_length]; simp [ByteArray.size]; have := HLEN.out; omega) HL0.out.size)
          go_wp2_with (go_at_call 33; with_reducible refine HW.out.mono ?_; rintro e w' ⟨rfl, hI', hB'⟩)
          have HI1 := Aside0.mk (builder_str hI')
          have HL1 := Aside0.mk (HL0.out.trans hB')
          clear hI' hB' HI0 HL0 HW
          have hqb : qB c = [92, 117, 48, 48, hexd (c / 16), hexd (c % 16)] := by unfold qB; rw [if_neg c8, if_neg c12, if_neg c10, if_neg c13, if_neg c9, if_pos c32]
          refine ⟨⟨i + 1, by omega, by go_num, ⟨?_⟩, HL1⟩, by simp [intOf]; omega⟩
          have hz := HI1.out
          rw [HQ.out]
          simpa [hqb] using hz
        have c32b : decide (c < 32) = false := decide_eq_false c32
        by_cases c34 : c = 34
        · subst c34
          go_wp2_with (go_at_call 53; refine (HIB.out _).mono ?_; rintro e w' ⟨rfl, rfl⟩)
          have HW := Aside0.mk (strings_Builder_WriteByte.own w.heap.size w.heap.size (Lib.byteCells (34 :: L)) (92) _ (Or.inr HI.out) (by rw [Lib.byteCells_length]; simp; have := HLEN.out; omega) HL.out.size)
          go_wp2_with (go_at_call 31; with_reducible refine HW.out.mono ?_; rintro e w' ⟨rfl, hI', hB'⟩)
          have HI1 := Aside0.mk (builder_snoc hI' (by decide) (by decide))
          have HL1 := Aside0.mk (HL.out.trans hB')
          clear hI' hB' HI HL HW
          have HW := Aside0.mk (strings_Builder_WriteByte.own w.heap.size w.heap.size (Lib.byteCells ((34 :: L) ++ [(92 : Int).toNat.toUInt8])) (34) _ (Or.inr HI1.out) (by rw [Lib.byteCells_length]; simp; have := HLEN.out; omega) HL1.out.size)
          go_wp2_with (go_at_call 31; with_reducible refine HW.out.mono ?_; rintro e w' ⟨rfl, hI', hB'⟩)
          have HI2 := Aside0.mk (builder_snoc hI' (by decide) (by decide))
          have HL2 := Aside0.mk (HL1.out.trans hB')
          clear hI' hB' HI1 HL1 HW
          refine ⟨⟨i + 1, by omega, by go_num, ⟨?_⟩, HL2⟩, by simp [intOf]; omega⟩
          have hz := HI2.out
          rw [HQ.out]
          simpa [qB] using hz
        by_cases c92 : c = 92
        · subst c92
          go_wp2_with (go_at_call 53; refine (HIB.out _).mono ?_; rintro e w' ⟨rfl, rfl⟩)
          have HW := Aside0.mk (strings_Builder_WriteByte.own w.heap.size w.heap.size (Lib.byteCells (34 :: L)) (92) _ (Or.inr HI.out) (by rw [Lib.byteCells_length]; simp; have := HLEN.out; omega) HL.out.size)
          go_wp2_with (go_at_call 31; with_reducible refine HW.out.mono ?_; rintro e w' ⟨rfl, hI', hB'⟩)
          have HI1 := Aside0.mk (builder_snoc hI' (by decide) (by decide))
          have HL1 := Aside0.mk (HL.out.trans hB')
          clear hI' hB' HI HL HW
          have HW := Aside0.mk (strings_Builder_WriteByte.own w.heap.size w.heap.size (Lib.byteCells ((34 :: L) ++ [(92 : Int).toNat.toUInt8])) (92) _ (Or.inr HI1.out) (by rw [Lib.byteCells_length]; simp; have := HLEN.out; omega) HL1.out.size)
          go_wp2_with (go_at_call 31; with_reducible refine HW.out.mono ?_; rintro e w' ⟨rfl, hI', hB'⟩)
          have HI2 := Aside0.mk (builder_snoc hI' (by decide) (by decide))
          have HL2 := Aside0.mk (HL1.out.trans hB')
          clear hI' hB' HI1 HL1 HW
          refine ⟨⟨i + 1, by omega, by go_num, ⟨?_⟩, HL2⟩, by simp [intOf]; omega⟩
          have hz := HI2.out
          rw [HQ.out]
          simpa [qB] using hz
        have c34b : (c == 34) = false := beq_eq_false_iff_ne.2 c34
        have c92b : (c == 92) = false := beq_eq_false_iff_ne.2 c92
        have hqb : qB c = [c.toNat.toUInt8] := by unfold qB; rw [if_neg c8, if_neg c12, if_neg c10, if_neg c13, if_neg c9, if_neg c32, if_neg (by simp [c34, c92])]
        go_wp2_with (go_at_call 53; refine (HIB.out _).mono ?_; rintro e w' ⟨rfl, rfl⟩)
        have HW := Aside0.mk (strings_Builder_WriteByte.own w.heap.size w.heap.size (Lib.byteCells (34 :: L)) (c) _ (Or.inr HI.out) (by rw [Lib.byteCells_length]; simp; have := HLEN.out; omega) HL.out.size)
        go_wp2_with (go_at_call 31; with_reducible refine HW.out.mono ?_; rintro e w' ⟨rfl, hI', hB'⟩)
        have HI1 := Aside0.mk (builder_snoc hI' hr.1 hr.2)
        have HL1 := Aside0.mk (HL.out.trans hB')
        clear hI' hB' HI HL HW
        refine ⟨⟨i + 1, by omega, by go_num, ⟨?_⟩, HL1⟩, by simp [intOf]; omega⟩
        have hz := HI1.out
        rw [HQ.out]
        simpa [hqb] using hz
      · have hie : i = a0.size := by omega
        subst hie
        clear hlt hi
        have hL : a0.data.toList.take a0.size = a0.data.toList := List.take_of_length_le (by simp)
        rw [hL] at HI
        have hlen := qL_len a0.data.toList
        have HLEN := Aside0.mk (show (qL a0.data.toList).length ≤ 6 * a0.size by simpa using hlen)
        have HM' := HM.out
        clear hlen hL
        have HW := Aside0.mk (strings_Builder_WriteByte.own w.heap.size w.heap.size (Lib.byteCells (34 :: qL a0.data.toList)) (34) _ (Or.inr HI.out) (by rw [Lib.byteCells_length]; simp; have := HLEN.out; omega) HL.out.size)
        go_wp2_with (go_at_call 31; with_reducible refine HW.out.mono ?_; rintro e w' ⟨rfl, hI', hB'⟩)
        have HI1 := Aside0.mk (builder_snoc hI' (by decide) (by decide))
        have HL1 := Aside0.mk (HL.out.trans hB')
        clear hI' hB' HI HL HW
        go_wp2_with (go_at_call 34; refine (Tryz.Builder_String w.heap.size w.heap.size _ _ (Or.inr HI1.out) (by simp)).mono ?_; rintro e w' ⟨rfl, hB'⟩)
        go_ret2
        exact ⟨by simp [quoteS, quoteL], HL1.out.trans hB'⟩
end Go.Proofs.YtbcgailnhgknnaaGreatDoor.PLabelParse
