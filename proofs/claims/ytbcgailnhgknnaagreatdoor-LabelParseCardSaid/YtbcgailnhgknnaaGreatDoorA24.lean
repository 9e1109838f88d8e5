/- Proved here: what functions on this claim's road compute, each as a contract over the seat's program. Conditions: each theorem's own premises. -/
import Derived.Shelf.Abstract
import Derived.Test.YtbcgailnhgknnaaGreatDoorA11
import Derived.Test.YtbcgailnhgknnaaGreatDoorA16
import Derived.Test.YtbcgailnhgknnaaGreatDoorA01
import Derived.Test.YtbcgailnhgknnaaGreatDoorA19
import Derived.Test.YtbcgailnhgknnaaGreatDoorA20
import Derived.Test.YtbcgailnhgknnaaGreatDoorA21
import Derived.Test.YtbcgailnhgknnaaGreatDoorA23
section
namespace Go.Proofs.YtbcgailnhgknnaaGreatDoor.PLabelParse
open Go.Proofs.YtbcgailnhgknnaaGreatDoorU8 Go.RowKit Go.Proofs.YtbcgailnhgknnaaGreatDoorW.PrintWords Go.Proofs.YtbcgailnhgknnaaGreatDoorW.PrintLast Go.Proofs.YtbcgailnhgknnaaGreatDoorW.PrintMore
attribute [local go_sem] max2_int min2_int max_two min_two max_three min_three max_four min_four   -- for this text's walks alone
set_option linter.unusedVariables false
set_option linter.unusedSimpArgs false
theorem quote_ok.own (x : ByteArray × ByteArray) (hb : badP x = false) (hs : SmallP x) (W : World) : Calls Tryz.prog 32 #[.string x.2] W fun e w' => e = .returned (.tuple #[.string (quoteS x.2), .int .i64 0]) ∧ Below W.heap.size W w' :=
  jtok_Quote.calls x.2 _ _ W (by
    unfold jtok_Quote.f utf_Valid.f utf_walk.f
    unfold badP at hb
    unfold SmallP at hs
    have hv : u8valid (bytesOf x.2) = true := by
      simp only [Bool.or_eq_false_iff] at hb
      simpa using hb.2.2
    rw [if_pos (by omega)]
    simp only [Option.bind_some]
    have : ((u8walk (bytesOf x.2)).2 == (x.2.size : Int)) = true := by simpa [u8valid, bytesOf_length] using hv
    rw [this]
    simp [hs.2])
def StrPost (ps : PS) (w : World) (e : Ending) (w' : World) : Prop := e = .returned (.string (textS ps)) ∧ Below w.heap.size w w'
set_option maxHeartbeats 2000000 in
set_option maxRecDepth 100000 in
theorem label_Set_String.own (base : Nat) (v : Value) (ps : PS) (hs : ∀ x ∈ ps, SmallP x ∧ badP x = false) (hl : (textL ps).length ≤ 1099511627776) (w : World) (h : PairsAt 47 w base v ps) :
    Calls Tryz.prog 14 #[.agg #[v]] w (StrPost ps w) := by
  have hl0 : Below w.heap.size w ((w.alloc (.cells #[v] 24)).alloc (.cells #[.pointer none, .slice none 0 0] 60)) := ((Below.refl _ w).alloc (Nat.le_refl _) _).alloc (by simp) _
  have HF := Aside0.mk (Lib.fresh_isBuilder 60 5 (w.alloc (.cells #[v] 24)))
  have HL0 := Aside0.mk hl0
  have HP := Aside0.mk h
  have HS := Aside0.mk hs
  have HLN := Aside0.mk hl
  clear hl0 hs hl
  rcases pairs_form h with ⟨rfl, rfl⟩ | ⟨g, cap, rfl, hb, hg, hc, hm⟩
  · clear h
    go_enter Tryz.func14, Tryz.ntmps14
    go_wp2_with fail
    refine (strings_Builder_WriteByte.own (w.heap.size + 1) (w.heap.size + 1) [] 123 _ (by simpa using HF.out) (by simp) (by simp)).mono ?_
    rintro e w2 ⟨rfl, hI2, hB2⟩
    have HI2 := Aside0.mk (show Lib.BuilderAt 60 5 (w.heap.size + 1) (w.heap.size + 1) _ (Lib.byteCells [123]) w2 from hI2)
    have HL2 := Aside0.mk (HL0.out.trans (hB2.mono (by simp)))
    have c0 : w2.cell? ⟨w.heap.size, 0, none⟩ = some (.slice none 0 0) := (hB2.cell (by simp)).trans (cell_alloc (by simp) _)
    have hsz : w.heap.size + 1 ≤ w2.heap.size := by have := hB2.size; simp at this; omega
    clear hI2 hB2 HF HL0
    go_wp2_with fail
    go_loop [12] (fun i => i = .int .i64 0) (fun _ => 0)
    case atStart => rfl
    case round =>
      subst hrel
      clear c0
      go_wp2_with fail
      refine (strings_Builder_WriteByte.own (w.heap.size + 1) (w.heap.size + 1) _ 125 _ (Or.inr HI2.out) (by simp [Lib.byteCells_length]) hsz).mono ?_
      rintro e w3 ⟨rfl, hI3, hB3⟩
      have HI3 := Aside0.mk (builder_snoc hI3 (by decide) (by decide))
      have HL3 := Aside0.mk (HL2.out.trans (hB3.mono (by omega)))
      clear hI3 hB3
      go_wp2_with fail
      refine (Tryz.Builder_String (w.heap.size + 1) (w.heap.size + 1) _ _ (Or.inr HI3.out) (by simp)).mono ?_
      rintro e w4 ⟨rfl, hB4⟩
      have HL4 := Aside0.mk (HL3.out.trans (hB4.mono (by omega)))
      clear hB4
      go_wp2
      go_ret
      exact ⟨rfl, HL4.out⟩
  · clear h
    go_enter Tryz.func14, Tryz.ntmps14
    go_wp2_with fail
    refine (strings_Builder_WriteByte.own (w.heap.size + 1) (w.heap.size + 1) [] 123 _ (by simpa using HF.out) (by simp) (by simp)).mono ?_
    rintro e w2 ⟨rfl, hI2, hB2⟩
    have HI2 := Aside0.mk (show Lib.BuilderAt 60 5 (w.heap.size + 1) (w.heap.size + 1) _ (Lib.byteCells (123 :: bodyF true (ps.take 0))) w2 from hI2)
    have HL2 := Aside0.mk (HL0.out.trans (hB2.mono (by simp)))
    have c0 : w2.cell? ⟨w.heap.size, 0, none⟩ = some (.slice (some ⟨g, 0, none⟩) ps.length cap) := (hB2.cell (by simp)).trans (cell_alloc (by simp) _)
    have hsz : w.heap.size + 1 ≤ w2.heap.size := by have := hB2.size; simp at this; omega
    have HSZ := Aside0.mk hsz
    clear hI2 hB2 HF HL0 hsz
    go_wp2_with fail
    unfold maxLen at hm
    go_loopw [12] (fun i wr => ∃ k : Nat, i = .int .i64 k ∧ k ≤ ps.length ∧ Aside0 (w.heap.size + 1 ≤ wr.heap.size) ∧ Aside0 (Lib.BuilderAt 60 5 (w.heap.size + 1) (w.heap.size + 1) (.pointer (some ⟨w.heap.size + 1, 0, none⟩)) (Lib.byteCells (123 :: bodyF true (ps.take k))) wr) ∧ Aside0 (Below w.heap.size w wr)) (fun i _ => ps.length - (intOf i).toNat)
    case atStart => exact ⟨0, rfl, Nat.zero_le _, HSZ, HI2, HL2⟩
    case round =>
      clear c0 HI2 HL2 HSZ
      obtain ⟨k, rfl, hk, HZ, HI, HL⟩ := hrel
      have hbl := bodyF_len_take true ps k
      have HBL := Aside0.mk (show (bodyF true (ps.take k)).length ≤ 1099511627776 by have := HLN.out; unfold textL at this; simp only [List.length_cons, List.length_append, List.length_nil] at this; omega)
      clear hbl
      by_cases hlt : k < ps.length
      · have hx := flatP_get ps k ps[k] (by simp [hlt])
        have hmem : ps[k] ∈ ps := List.getElem_mem hlt
        have hsx := HS.out _ hmem
        have hil := itemL_le true ps _ hmem
        have HSN := Aside0.mk (show bodyF true (ps.take (k + 1)) = bodyF true (ps.take k) ++ ((if ps.take k = [] ∧ true = true then [] else [44]) ++ itemL ps[k]) by rw [List.take_succ_eq_append_getElem hlt, bodyF_snoc])
        have c1 := (pairs_cell (pairs_below HP.out HL.out) _ _ hx.1).1
        have c2 := (pairs_cell (pairs_below HP.out HL.out) _ _ hx.2).1
        generalize ps[k] = x at *
        have HQ := Aside0.mk (fun W => quote_ok.own x hsx.2 hsx.1 W)
        have hitem : (itemL x).length = x.1.size + 1 + (quoteS x.2).size := by rw [show (quoteS x.2).size = (quoteL x.2.data.toList).length from by simp [quoteS, ByteArray.size]]; simp [itemL]; omega
        have hsq : x.1.size + 1 + (quoteS x.2).size ≤ 1099511627776 := by
          have := HLN.out; unfold textL at this; simp only [List.length_cons, List.length_append, List.length_nil] at this; omega
        have HIT := Aside0.mk (show ((x.1 ++ (⟨#[61]⟩ : ByteArray)) ++ quoteS x.2).data.toList = itemL x by simp [itemL, quoteS])
        generalize quoteS x.2 = qv at *
        have q1 : (x.1.size + 1 ≤ 9223372036854775807) = True := eq_true (by omega)
        have q2 : (x.1.size + 1 + qv.size ≤ 9223372036854775807) = True := eq_true (by omega)
        have q1' : (9223372036854775807 < x.1.size + 1) = False := eq_false (by omega)
        have q2' : (9223372036854775807 < x.1.size + 1 + qv.size) = False := eq_false (by omega)
        have HSQ := Aside0.mk hsq
        have q3 : ((k : Int) < (ps.length : Int)) = True := eq_true (by omega)
        have hkl : (k : Int) + 1 ≤ (ps.length : Int) := by omega
        have hkm : ps.length ≤ 9223372036854775807 := by omega
        clear hx hmem hsx hil hitem hsq hlt
        by_cases hk0 : k = 0
        · subst hk0
          have q5 : 0 < ps.length := by have := of_eq_true q3; omega
          go_wp2_with fail
          refine (HQ.out _).mono ?_
          rintro e w4 ⟨rfl, hB4⟩
          have HI4 := Aside0.mk (builder_below HI.out (((Below.refl _ _).alloc (Nat.le_refl _) _).trans (hB4.mono (by simp))))
          have HL4 := Aside0.mk ((HL.out.alloc (by have := HZ.out; omega) _).trans (hB4.mono (by have := HZ.out; simp; omega)))
          have hz4 := hB4.size
          have HZ4 := Aside0.mk (show wr.heap.size < w4.heap.size by simp at hz4; omega)
          have r1 : w4.cell? ⟨wr.heap.size, 0, none⟩ = some (.string x.1) := (hB4.cell (by simp)).trans (by simp)
          have r2 : w4.cell? ⟨wr.heap.size, 1, none⟩ = some (.string x.2) := (hB4.cell (by simp)).trans (by simp)
          clear hB4 hz4
          go_wp2_with fail
          refine (strings_Builder_WriteString.own (w.heap.size + 1) (w.heap.size + 1) _ _ _ (Or.inr HI4.out) (by rw [Lib.byteCells_length]; simp only [List.length_cons, List.length_append, List.length_nil, ByteArray.size_append, show (⟨#[61]⟩ : ByteArray).size = 1 from rfl]; have h1 := HBL.out; have h2 := HSQ.out; omega) (by have h1 := HZ4.out; have h2 := HZ.out; omega)).mono ?_
          rintro e w5 ⟨rfl, hI5, hB5⟩
          have HI5 := Aside0.mk (builder_str hI5)
          have HL5 := Aside0.mk (HL4.out.trans (hB5.mono (by omega)))
          have HZ5 := Aside0.mk (show w.heap.size + 1 ≤ w5.heap.size by have h1 := hB5.size; have h2 := HZ4.out; have h3 := HZ.out; omega)
          clear hI5 hB5 HI4 HL4 HZ4 r1 r2
          go_wp2_with fail
          refine ⟨⟨0 + 1, by go_num, by have := q5; omega, HZ5, ⟨?_⟩, HL5⟩, by have := q5; simp [intOf]; omega⟩
          rw [HSN.out]
          have hz := HI5.out
          rw [HIT.out] at hz
          simpa [bodyF] using hz
        · have q4 : ((0 : Int) < (k : Int)) = True := eq_true (by omega)
          go_wp2_with fail
          refine (strings_Builder_WriteByte.own2 (w.heap.size + 1) (w.heap.size + 1) _ 44 _ (Or.inr (builder_below HI.out ((Below.refl _ _).alloc (Nat.le_refl _) _))) (by rw [Lib.byteCells_length]; simp only [List.length_cons]; have := HBL.out; omega) (by have := HZ.out; simp; omega)).mono ?_
          rintro e w3 ⟨rfl, ⟨hI3, hB3⟩, hK3⟩
          have HI3 := Aside0.mk (builder_snoc hI3 (by decide) (by decide))
          have pb3 := hK3 wr.heap.size _ 47 _ (heap_alloc_new wr _) (by decide) (by decide)
          have HL3 := Aside0.mk ((HL.out.alloc (by have := HZ.out; omega) _).trans (hB3.mono (by omega)))
          have hz3 := hB3.size
          have p1 : w3.cell? ⟨wr.heap.size, 0, none⟩ = some (.string x.1) := (Lib.cell_of_heap pb3 _).trans rfl
          have p2 : w3.cell? ⟨wr.heap.size, 1, none⟩ = some (.string x.2) := (Lib.cell_of_heap pb3 _).trans rfl
          have PB3 := Aside0.mk pb3
          have HZ3 := Aside0.mk (show wr.heap.size < w3.heap.size by simp at hz3; omega)
          clear hI3 hB3 hK3 hz3 pb3
          go_wp2_with fail
          refine (HQ.out _).mono ?_
          rintro e w4 ⟨rfl, hB4⟩
          have HI4 := Aside0.mk (builder_below HI3.out hB4)
          have HL4 := Aside0.mk (HL3.out.trans (hB4.mono HL3.out.size))
          have HZ4 := Aside0.mk (show wr.heap.size < w4.heap.size from Nat.lt_of_lt_of_le HZ3.out hB4.size)
          have r1 : w4.cell? ⟨wr.heap.size, 0, none⟩ = some (.string x.1) := (hB4.cell HZ3.out).trans p1
          have r2 : w4.cell? ⟨wr.heap.size, 1, none⟩ = some (.string x.2) := (hB4.cell HZ3.out).trans p2
          clear hB4 p1 p2 HI3 HL3 HZ3 PB3
          go_wp2_with fail
          refine (strings_Builder_WriteString.own (w.heap.size + 1) (w.heap.size + 1) _ _ _ (Or.inr HI4.out) (by rw [Lib.byteCells_length]; simp only [List.length_cons, List.length_append, List.length_nil, ByteArray.size_append, show (⟨#[61]⟩ : ByteArray).size = 1 from rfl]; have h1 := HBL.out; have h2 := HSQ.out; omega) (by have h1 := HZ4.out; have h2 := HZ.out; omega)).mono ?_
          rintro e w5 ⟨rfl, hI5, hB5⟩
          have HI5 := Aside0.mk (builder_str hI5)
          have HL5 := Aside0.mk (HL4.out.trans (hB5.mono (by omega)))
          have HZ5 := Aside0.mk (show w.heap.size + 1 ≤ w5.heap.size by have h1 := hB5.size; have h2 := HZ4.out; have h3 := HZ.out; omega)
          clear hI5 hB5 HI4 HL4 HZ4 r1 r2
          go_wp2_with fail
          refine ⟨⟨k + 1, by go_num, by have := of_eq_true q3; omega, HZ5, ⟨?_⟩, HL5⟩, by have := of_eq_true q3; simp [intOf]; omega⟩
          have hne : ¬ (ps.take k = [] ∧ True) := fun hh => by
            have h1 := congrArg List.length hh.1
            have h2 := of_eq_true q3
            have h3 := of_eq_true q4
            rw [List.length_take, List.length_nil] at h1
            omega
          rw [HSN.out, if_neg hne]
          have hz := HI5.out
          rw [HIT.out] at hz
          simpa using hz
      · have hke : k = ps.length := by omega
        subst hke
        have htk : ps.take ps.length = ps := List.take_of_length_le (Nat.le_refl _)
        rw [htk] at HI HBL
        have q3 : ((ps.length : Int) < (ps.length : Int)) = False := eq_false (by omega)
        clear htk hlt
        go_wp2_with fail
        refine (strings_Builder_WriteByte.own (w.heap.size + 1) (w.heap.size + 1) _ 125 _ (Or.inr HI.out) (by rw [Lib.byteCells_length]; simp only [List.length_cons]; have := HBL.out; omega) HZ.out).mono ?_
        rintro e w3 ⟨rfl, hI3, hB3⟩
        have HI3 := Aside0.mk (builder_snoc hI3 (by decide) (by decide))
        have HL3 := Aside0.mk (HL.out.trans (hB3.mono (by omega)))
        clear hI3 hB3
        go_wp2_with fail
        refine (Tryz.Builder_String (w.heap.size + 1) (w.heap.size + 1) _ _ (Or.inr HI3.out) (by simp)).mono ?_
        rintro e w4 ⟨rfl, hB4⟩
        have HL4 := Aside0.mk (HL3.out.trans (hB4.mono (by omega)))
        clear hB4
        go_wp2
        go_ret
        exact ⟨rfl, HL4.out⟩
end Go.Proofs.YtbcgailnhgknnaaGreatDoor.PLabelParse
end
section
namespace Go.Proofs.YtbcgailnhgknnaaGreatDoor.PLabelParse
open Go.Proofs.YtbcgailnhgknnaaGreatDoorU8 Go.RowKit Go.Proofs.YtbcgailnhgknnaaGreatDoorW.PrintWords Go.Proofs.YtbcgailnhgknnaaGreatDoorW.PrintLast Go.Proofs.YtbcgailnhgknnaaGreatDoorW.PrintMore
attribute [local go_sem] max2_int min2_int max_two min_two max_three min_three max_four min_four   -- for this text's walks alone
set_option linter.unusedVariables false
set_option linter.unusedSimpArgs false
def stringslite_HasPrefix.f (a0 : ByteArray) (a1 : ByteArray) : Option (Bool) := if (a0.size : Int) ≥ (a1.size : Int) then (if 0 ≤ (a1.size : Int) then (if (a1.size : Int) ≤ (a0.size : Int) then (some ((a0.extract 0 ((a1.size : Int) : Int).toNat).toList == a1.toList)) else (none)) else (none)) else (some false)
set_option maxHeartbeats 8000000 in
set_option maxRecDepth 100000 in
theorem stringslite_HasPrefix.calls (a0 : ByteArray) (a1 : ByteArray) (r : Bool) (w : World) (h : stringslite_HasPrefix.f a0 a1 = some r) :
    Calls Tryz.prog 55 #[.string a0, .string a1] w fun e w' => e = .returned (.bool r) ∧ Drawn0 w w' := by
  have H : (if (a0.size : Int) ≥ (a1.size : Int) then (if 0 ≤ (a1.size : Int) then (if (a1.size : Int) ≤ (a0.size : Int) then (some ((a0.extract 0 ((a1.size : Int) : Int).toNat).toList == a1.toList)) else (none)) else (none)) else (some false)) = some r := h
  clear h
  by_cases c3 : (a0.size : Int) ≥ (a1.size : Int)
  · rw [if_pos c3] at H
    have c3b0 : decide ((a1.size : Int) ≤ (a0.size : Int)) = true := decide_eq_true c3
    have c3b1 : decide (a1.size ≤ a0.size) = true := decide_eq_true (Int.ofNat_le.mp c3)
    clear c3
    by_cases c4 : 0 ≤ (a1.size : Int)
    · rw [if_pos c4] at H
      have c4b0 := eq_true c4
      have c4b1 : decide (0 ≤ (a1.size : Int)) = true := decide_eq_true c4
      clear c4
      by_cases c5 : (a1.size : Int) ≤ (a0.size : Int)
      · rw [if_pos c5] at H
        have c5b0 := eq_true c5
        have c5b1 : decide ((a1.size : Int) ≤ (a0.size : Int)) = true := decide_eq_true c5
        clear c5
        obtain rfl := Option.some.inj H
        go_enter Tryz.func55, Tryz.ntmps55
        go_wp2
        go_ret
        exact ⟨by first | rfl | (simp; done) | (simp [*]; done) | (simp [wrap64]; omega) | (refine congrArg (fun b_ => Ending.returned (Value.bool b_)) ?_; generalize ByteArray.toList _ = l_; cases l_ <;> rfl), by repeat (first | exact Drawn0.refl _ | apply Drawn0.step)⟩
      · rw [if_neg c5] at H
        exact absurd H (by simp)
    · rw [if_neg c4] at H
      exact absurd H (by simp)
  · rw [if_neg c3] at H
    have c3b0 : decide ((a1.size : Int) ≤ (a0.size : Int)) = false := decide_eq_false c3
    have c3b1 : decide (a1.size ≤ a0.size) = false := decide_eq_false (fun h => c3 (Int.ofNat_le.mpr h))
    clear c3
    obtain rfl := Option.some.inj H
    go_enter Tryz.func55, Tryz.ntmps55
    go_wp2
    go_ret
    exact ⟨by first | rfl | (simp; done) | (simp [*]; done) | (simp [wrap64]; omega) | (refine congrArg (fun b_ => Ending.returned (Value.bool b_)) ?_; generalize ByteArray.toList _ = l_; cases l_ <;> rfl), by repeat (first | exact Drawn0.refl _ | apply Drawn0.step)⟩
end Go.Proofs.YtbcgailnhgknnaaGreatDoor.PLabelParse
end
section
namespace Go.Proofs.YtbcgailnhgknnaaGreatDoor.PLabelParse
open Go.Proofs.YtbcgailnhgknnaaGreatDoorU8 Go.RowKit Go.Proofs.YtbcgailnhgknnaaGreatDoorW.PrintWords Go.Proofs.YtbcgailnhgknnaaGreatDoorW.PrintLast Go.Proofs.YtbcgailnhgknnaaGreatDoorW.PrintMore
attribute [local go_sem] max2_int min2_int max_two min_two max_three min_three max_four min_four   -- for this text's walks alone
set_option linter.unusedVariables false
set_option linter.unusedSimpArgs false
def stringslite_CutPrefix.f (a0 : ByteArray) (a1 : ByteArray) : Option (ByteArray × Bool) := (stringslite_HasPrefix.f a0 a1).bind fun t114 => (if t114 = true then (if 0 ≤ (a1.size : Int) then (if (a1.size : Int) ≤ (a0.size : Int) then (some (a0.extract ((a1.size : Int) : Int).toNat a0.size, true)) else (none)) else (none)) else (some (a0, false)))
set_option maxHeartbeats 8000000 in
set_option maxRecDepth 100000 in
theorem stringslite_CutPrefix.calls (a0 : ByteArray) (a1 : ByteArray) (r1 : ByteArray) (r2 : Bool) (w : World) (h : stringslite_CutPrefix.f a0 a1 = some (r1, r2)) :
    Calls Tryz.prog 36 #[.string a0, .string a1] w fun e w' => e = .returned (.tuple #[.string r1, .bool r2]) ∧ Drawn0 w w' := by
  have H : ((stringslite_HasPrefix.f a0 a1).bind fun t114 => (if t114 = true then (if 0 ≤ (a1.size : Int) then (if (a1.size : Int) ≤ (a0.size : Int) then (some (a0.extract ((a1.size : Int) : Int).toNat a0.size, true)) else (none)) else (none)) else (some (a0, false)))) = some (r1, r2) := h
  clear h
  replace H := Option.bind_eq_some_iff.mp H
  obtain ⟨t114, A30, H⟩ := H
  replace H : (if t114 = true then (if 0 ≤ (a1.size : Int) then (if (a1.size : Int) ≤ (a0.size : Int) then (some (a0.extract ((a1.size : Int) : Int).toNat a0.size, true)) else (none)) else (none)) else (some (a0, false))) = some (r1, r2) := H
  have A3 := Aside0.mk A30
  clear A30
  by_cases c4 : t114 = true
  · subst c4
    have H1 : (if 0 ≤ (a1.size : Int) then (if (a1.size : Int) ≤ (a0.size : Int) then (some (a0.extract ((a1.size : Int) : Int).toNat a0.size, true)) else (none)) else (none)) = some (r1, r2) := by rw [if_pos rfl] at H; exact H
    clear H
    have H := H1
    clear H1
    by_cases c5 : 0 ≤ (a1.size : Int)
    · rw [if_pos c5] at H
      have c5b0 := eq_true c5
      have c5b1 : decide (0 ≤ (a1.size : Int)) = true := decide_eq_true c5
      clear c5
      by_cases c6 : (a1.size : Int) ≤ (a0.size : Int)
      · rw [if_pos c6] at H
        have c6b0 := eq_true c6
        have c6b1 : decide ((a1.size : Int) ≤ (a0.size : Int)) = true := decide_eq_true c6
        clear c6
        simp only [Option.some.injEq, Prod.mk.injEq] at H
        obtain ⟨rfl, rfl⟩ := H
        go_enter Tryz.func36, Tryz.ntmps36
        go_wp2_with (first | ((with_reducible refine gate_callee (f := 55) rfl ?_); refine goesL_ (some 8) rfl rfl Tryz.func55 (by kernel_rfl) rfl #[.string a0, .string a1] rfl (by (try simp only [List.map_toArray, List.map_cons, List.map_nil]); first | done | rfl | (simp only [List.length_drop, List.length_take]; rfl)) ?_; (with_reducible refine (stringslite_HasPrefix.calls a0 a1 true _ A3.out).mono ?_); rintro e w' ⟨rfl, ⟨nd, rfl⟩⟩; refine ⟨_, rfl, ?_⟩))
        go_ret2
        exact ⟨by first | rfl | (simp; done) | (simp [*]; done) | (simp [wrap64]; omega) | (refine congrArg (fun b_ => Ending.returned (Value.bool b_)) ?_; generalize ByteArray.toList _ = l_; cases l_ <;> rfl), by repeat (first | exact Drawn0.refl _ | apply Drawn0.step)⟩
      · rw [if_neg c6] at H
        exact absurd H (by simp)
    · rw [if_neg c5] at H
      exact absurd H (by simp)
  · replace c4 := Bool.eq_false_iff.mpr c4
    subst c4
    have H1 : (some (a0, false)) = some (r1, r2) := by rw [if_neg (show ¬ (false = true) by decide)] at H; exact H
    clear H
    have H := H1
    clear H1
    simp only [Option.some.injEq, Prod.mk.injEq] at H
    obtain ⟨rfl, rfl⟩ := H
    go_enter Tryz.func36, Tryz.ntmps36
    go_wp2_with (first | ((with_reducible refine gate_callee (f := 55) rfl ?_); refine goesL_ (some 8) rfl rfl Tryz.func55 (by kernel_rfl) rfl #[.string a0, .string a1] rfl (by (try simp only [List.map_toArray, List.map_cons, List.map_nil]); first | done | rfl | (simp only [List.length_drop, List.length_take]; rfl)) ?_; (with_reducible refine (stringslite_HasPrefix.calls a0 a1 false _ A3.out).mono ?_); rintro e w' ⟨rfl, ⟨nd, rfl⟩⟩; refine ⟨_, rfl, ?_⟩))
    go_ret2
    exact ⟨by first | rfl | (simp; done) | (simp [*]; done) | (simp [wrap64]; omega) | (refine congrArg (fun b_ => Ending.returned (Value.bool b_)) ?_; generalize ByteArray.toList _ = l_; cases l_ <;> rfl), by repeat (first | exact Drawn0.refl _ | apply Drawn0.step)⟩
end Go.Proofs.YtbcgailnhgknnaaGreatDoor.PLabelParse
end
section
namespace Go.Proofs.YtbcgailnhgknnaaGreatDoor.PLabelParse
open Go.Proofs.YtbcgailnhgknnaaGreatDoorU8 Go.RowKit Go.Proofs.YtbcgailnhgknnaaGreatDoorW.PrintWords Go.Proofs.YtbcgailnhgknnaaGreatDoorW.PrintLast Go.Proofs.YtbcgailnhgknnaaGreatDoorW.PrintMore
attribute [local go_sem] max2_int min2_int max_two min_two max_three min_three max_four min_four   -- for this text's walks alone
set_option linter.unusedVariables false
set_option linter.unusedSimpArgs false
def strings_CutPrefix.f (a0 : ByteArray) (a1 : ByteArray) : Option (ByteArray × Bool) := (stringslite_CutPrefix.f a0 a1).bind fun bt115 => (some (bt115.1, bt115.2))
set_option maxHeartbeats 8000000 in
set_option maxRecDepth 100000 in
theorem strings_CutPrefix.calls (a0 : ByteArray) (a1 : ByteArray) (r1 : ByteArray) (r2 : Bool) (w : World) (h : strings_CutPrefix.f a0 a1 = some (r1, r2)) :
    Calls Tryz.prog 16 #[.string a0, .string a1] w fun e w' => e = .returned (.tuple #[.string r1, .bool r2]) ∧ Drawn0 w w' := by
  have H : ((stringslite_CutPrefix.f a0 a1).bind fun bt115 => (some (bt115.1, bt115.2))) = some (r1, r2) := h
  clear h
  replace H := Option.bind_eq_some_iff.mp H
  obtain ⟨⟨t115, t116⟩, A30, H⟩ := H
  replace H : (some (t115, t116)) = some (r1, r2) := H
  have A3 := Aside0.mk A30
  clear A30
  simp only [Option.some.injEq, Prod.mk.injEq] at H
  obtain ⟨rfl, rfl⟩ := H
  go_enter Tryz.func16, Tryz.ntmps16
  go_wp2_with (first | ((with_reducible refine gate_callee (f := 36) rfl ?_); refine goesL_ (some 8) rfl rfl Tryz.func36 (by kernel_rfl) rfl #[.string a0, .string a1] rfl (by (try simp only [List.map_toArray, List.map_cons, List.map_nil]); first | done | rfl | (simp only [List.length_drop, List.length_take]; rfl)) ?_; (with_reducible refine (stringslite_CutPrefix.calls a0 a1 t115 t116 _ A3.out).mono ?_); rintro e w' ⟨rfl, ⟨nd, rfl⟩⟩; refine ⟨_, rfl, ?_⟩))
  go_ret2
  exact ⟨by first | rfl | (simp; done) | (simp [*]; done) | (simp [wrap64]; omega) | (refine congrArg (fun b_ => Ending.returned (Value.bool b_)) ?_; generalize ByteArray.toList _ = l_; cases l_ <;> rfl), by repeat (first | exact Drawn0.refl _ | apply Drawn0.step)⟩
end Go.Proofs.YtbcgailnhgknnaaGreatDoor.PLabelParse
end
