/- Proved here: what functions on this claim's road compute, each as a contract over the seat's program. Conditions: each theorem's own premises. -/
import Derived.Shelf.Abstract
import Derived.Test.YtbcgailnhgknnaaGreatDoorA11
import Derived.Test.YtbcgailnhgknnaaGreatDoorA16
import Derived.Test.YtbcgailnhgknnaaGreatDoorA01
import Derived.Test.YtbcgailnhgknnaaGreatDoorA20
import Derived.Test.YtbcgailnhgknnaaGreatDoorA24
import Derived.Test.YtbcgailnhgknnaaGreatDoorA25
import Derived.Test.YtbcgailnhgknnaaGreatDoorA26
import Derived.Test.YtbcgailnhgknnaaGreatDoorA36
import Derived.Test.YtbcgailnhgknnaaGreatDoorA21
import Derived.Test.YtbcgailnhgknnaaGreatDoorA15
import Derived.Test.YtbcgailnhgknnaaGreatDoorA12
import Derived.Test.YtbcgailnhgknnaaGreatDoorA13
section
namespace Go.Proofs.YtbcgailnhgknnaaGreatDoor.PLabelParse
open Go.Proofs.YtbcgailnhgknnaaGreatDoorU8 Go.RowKit Go.Proofs.YtbcgailnhgknnaaGreatDoorW.PrintWords Go.Proofs.YtbcgailnhgknnaaGreatDoorW.PrintLast Go.Proofs.YtbcgailnhgknnaaGreatDoorW.PrintMore
attribute [local go_sem] max2_int min2_int max_two min_two max_three min_three max_four min_four   -- for this text's walks alone
set_option linter.unusedVariables false
set_option linter.unusedSimpArgs false
def parseV (a b ok : Bool) (ps : PS) (s : ByteArray) : PS × Int := if a = true then if b = true then if ok = true then if ofE ps = 0 then if (textS (ofL ps)).toList = s.toList then (ofL ps, 0) else ([], 3) else ([], 3) else ([], 3) else ([], 3) else ([], 3)
def ParsePost (r : PS × Int) (w : World) (e : Ending) (w' : World) : Prop := ∃ v, e = .returned (.tuple #[.agg #[v], .int .i64 r.2]) ∧ PairsAt 47 w' w.heap.size v r.1 ∧ Below w.heap.size w w'
theorem mem_ofL {ps : PS} {x : ByteArray × ByteArray} (h : x ∈ ofL ps) : x ∈ ps ∧ badP x = false := by
  unfold ofL at h
  split at h
  · cases h
  · rename_i hb
    split at h
    · cases h
    · have hx := (sortP_perm ps).mem_iff.1 h
      exact ⟨hx, by
        have hb' : ps.any badP = false := by simpa using hb
        rw [List.any_eq_false] at hb'
        simpa using hb' x hx⟩
theorem pairs_slice {e : TypeId} {w : World} {base : Nat} {v : Value} {ps : PS} (h : PairsAt e w base v ps) : ∃ A n c, v = .slice A n c := by
  rcases pairs_form h with ⟨rfl, _⟩ | ⟨g, cap, rfl, _⟩
  · exact ⟨_, _, _, rfl⟩
  · exact ⟨_, _, _, rfl⟩
set_option maxHeartbeats 2000000 in
set_option maxRecDepth 100000 in
theorem label_Parse.own (k : Nat) (s : ByteArray) (i1 i2 : ByteArray) (a b : Bool) (ps : PS) (ok : Bool) (w : World) (hE : ErrCell w) (hs : i2.size ≤ 4294967280) (h1 : strings_CutPrefix.f s ⟨#[123]⟩ = some (i1, a)) (h2 : strings_CutSuffix.f i1 ⟨#[125]⟩ = some (i2, b)) (h3 : label_pairs.f k i2 = some (ps, ok))
    (hsm : ∀ x ∈ ps, SmallP x) (hln : ps.length ≤ 1099511627776) (htx : (textL (ofL ps)).length ≤ 1099511627776) :
    Calls Tryz.prog 5 #[.string s] w (ParsePost (parseV a b ok ps s) w) := by
  have H1 := Aside0.mk (fun W => strings_CutPrefix.calls s ⟨#[123]⟩ i1 a W h1)
  have H2 := Aside0.mk (fun W => strings_CutSuffix.calls i1 ⟨#[125]⟩ i2 b W h2)
  have H3 := Aside0.mk (fun W hW => label_pairs.own k i2 hs ps ok W hW h3)
  have HE := Aside0.mk hE
  have HSM := Aside0.mk (And.intro hsm (And.intro hln htx))
  clear h1 h2 h3 hE hsm hln htx hs
  have hb0 : Below w.heap.size w (w.alloc (.cells #[.slice none 0 0] 24)) := (Below.refl _ w).alloc (Nat.le_refl _) _
  go_enter Tryz.func5, Tryz.ntmps5
  go_wp2_with fail
  refine (H1.out _).mono ?_
  rintro e w1 ⟨rfl, ⟨n1, rfl⟩⟩
  go_wp2_with fail
  refine (H2.out _).mono ?_
  rintro e w2 ⟨rfl, ⟨n2, rfl⟩⟩
  go_wp2_with fail
  refine (H3.out _ (by exact HE.out.below (below_drewN hb0 _))).mono ?_
  rintro e w3 ⟨v3, rfl, hP3, hB3⟩
  have HB3 := Aside0.mk ((below_drewN hb0 _).trans (hB3.mono (by simp [drewN_size])))
  have z3 : w3.cell? ⟨w.heap.size, 0, none⟩ = some (.slice none 0 0) := (hB3.cell (by simp [drewN_size])).trans (cell_drewN (by simp) _)
  have y3 : w3.frozen? ⟨w.heap.size, 0, none⟩ = false := (hB3.frozen (by simp [drewN_size])).trans (Lib.frozen_of_heap (heap_alloc_new w _) 0)
  have hz3 : w.heap.size < w3.heap.size := by have := hB3.size; simp [drewN_size] at this; omega
  have HP3 := Aside0.mk (show PairsAt 47 w3 w.heap.size v3 ps from pairs_lower hP3 (by simp [drewN_size]))
  clear hB3 hP3 hb0 H1 H2 H3 HE
  cases a with
  | false =>
    go_wp2
    show bodyPost Tryz.prog Tryz.f5 (ParsePost _ w) Exit.ret _ _
    refine bodyPost_ret (P := Tryz.prog) (fn := Tryz.f5) (v := .tuple #[.agg #[.slice none 0 0], .int .i64 3]) (by simp [results, Tryz.results5, go_sem, z3, y3]) rfl ⟨.slice none 0 0, by first | rfl | (simp [parseV]; done) | rw [HPV.out], by first | exact pairs_nil _ _ _ | (rw [HPV.out]; exact pairs_nil _ _ _), ?_⟩
    exact (by repeat (with_reducible first | refine Below.setCell ?_ (by simp) _ | refine below_drewN ?_ _ | refine Below.alloc ?_ (by first | omega | (simp; omega)) _ | exact HB3.out))
  | true =>
    cases b with
    | false =>
      go_wp2
      show bodyPost Tryz.prog Tryz.f5 (ParsePost _ w) Exit.ret _ _
      refine bodyPost_ret (P := Tryz.prog) (fn := Tryz.f5) (v := .tuple #[.agg #[.slice none 0 0], .int .i64 3]) (by simp [results, Tryz.results5, go_sem, z3, y3]) rfl ⟨.slice none 0 0, by first | rfl | (simp [parseV]; done) | rw [HPV.out], by first | exact pairs_nil _ _ _ | (rw [HPV.out]; exact pairs_nil _ _ _), ?_⟩
      exact (by repeat (with_reducible first | refine Below.setCell ?_ (by simp) _ | refine below_drewN ?_ _ | refine Below.alloc ?_ (by first | omega | (simp; omega)) _ | exact HB3.out))
    | true =>
      cases ok with
      | false =>
        go_wp2
        show bodyPost Tryz.prog Tryz.f5 (ParsePost _ w) Exit.ret _ _
        refine bodyPost_ret (P := Tryz.prog) (fn := Tryz.f5) (v := .tuple #[.agg #[.slice none 0 0], .int .i64 3]) (by simp [results, Tryz.results5, go_sem, z3, y3]) rfl ⟨.slice none 0 0, by first | rfl | (simp [parseV]; done) | rw [HPV.out], by first | exact pairs_nil _ _ _ | (rw [HPV.out]; exact pairs_nil _ _ _), ?_⟩
        exact (by repeat (with_reducible first | refine Below.setCell ?_ (by simp) _ | refine below_drewN ?_ _ | refine Below.alloc ?_ (by first | omega | (simp; omega)) _ | exact HB3.out))
      | true =>
        go_wp2_with fail
        refine (label_Of.own w.heap.size v3 ps HSM.out.1 HSM.out.2.1 w3 HP3.out).mono ?_
        rintro e w4 ⟨v4, rfl, hP4, hB4⟩
        obtain ⟨A4, n4, c4, rfl⟩ := pairs_slice hP4
        have HB4 := Aside0.mk (HB3.out.trans (hB4.mono (Nat.le_of_lt hz3)))
        have z4 : w4.cell? ⟨w.heap.size, 0, none⟩ = some (.slice none 0 0) := (hB4.cell hz3).trans z3
        have y4 : w4.frozen? ⟨w.heap.size, 0, none⟩ = false := (hB4.frozen hz3).trans y3
        have hz4 : w.heap.size < w4.heap.size := Nat.lt_of_lt_of_le hz3 hB4.size
        have HP4 := Aside0.mk hP4
        have HZ3 := Aside0.mk hz3
        clear hB4 hP4 HB3 HP3 z3 y3 hz3
        by_cases hof : ofE ps = 0
        · rw [hof]
          have HPV0 := Aside0.mk (show parseV true true true ps s = if (textS (ofL ps)).toList = s.toList then (ofL ps, 0) else ([], 3) by unfold parseV; rw [if_pos rfl, if_pos rfl, if_pos rfl, if_pos hof])
          clear hof
          go_wp2_with fail
          refine (label_Set_String.own w3.heap.size (.slice A4 n4 c4) (ofL ps) (fun x hx => ⟨HSM.out.1 x (mem_ofL hx).1, (mem_ofL hx).2⟩) HSM.out.2.2 _ (by exact pairs_below HP4.out ((Below.refl _ _).alloc (Nat.le_refl _) _))).mono ?_
          rintro e w5 ⟨rfl, hB5⟩
          have HB5 := Aside0.mk ((HB4.out.alloc (Nat.le_of_lt hz4) _).trans (hB5.mono (by simp; omega)))
          have z5 : w5.cell? ⟨w.heap.size, 0, none⟩ = some (.slice none 0 0) := (hB5.cell (by simp; omega)).trans (cell_alloc z4 _)
          have y5 : w5.frozen? ⟨w.heap.size, 0, none⟩ = false := (hB5.frozen (by simp; omega)).trans (frozen_alloc z4 y4 _)
          have x5 : w5.cell? ⟨w4.heap.size, 0, none⟩ = some (.slice A4 n4 c4) := (hB5.cell (by simp)).trans (by simp)
          have hz5 : w.heap.size < w5.heap.size := by have := hB5.size; simp at this; omega
          have HP5 := Aside0.mk (pairs_below (pairs_below HP4.out ((Below.refl _ _).alloc (Nat.le_refl _) (.cells #[.slice A4 n4 c4] 24))) hB5)
          clear hB5 HB4 HP4 z4 y4
          cases ht : ((textS (ofL ps)).toList == s.toList) with
          | true =>
            have HPV := Aside0.mk (show parseV true true true ps s = (ofL ps, 0) by rw [HPV0.out, if_pos (by simpa using ht)])
            go_wp2
            show bodyPost Tryz.prog Tryz.f5 (ParsePost _ w) Exit.ret _ _
            refine bodyPost_ret (P := Tryz.prog) (fn := Tryz.f5) (v := .tuple #[.agg #[.slice A4 n4 c4], .int .i64 0]) (by simp [results, Tryz.results5, go_sem, z5, y5]) rfl ⟨.slice A4 n4 c4, by rw [HPV.out], ?_, ?_⟩
            · rw [HPV.out]
              exact pairs_lower (base := w3.heap.size) (ownsRow_setCell_below (a := ⟨w.heap.size, 0, none⟩) HP5.out HZ3.out _) (Nat.le_of_lt HZ3.out)
            · exact (by repeat (with_reducible first | refine Below.setCell ?_ (by simp) _ | refine below_drewN ?_ _ | refine Below.alloc ?_ (by first | omega | (simp; omega)) _ | exact HB5.out))
          | false =>
            have HPV := Aside0.mk (show parseV true true true ps s = ([], 3) by rw [HPV0.out, if_neg (by simpa using ht)])
            go_wp2
            show bodyPost Tryz.prog Tryz.f5 (ParsePost _ w) Exit.ret _ _
            refine bodyPost_ret (P := Tryz.prog) (fn := Tryz.f5) (v := .tuple #[.agg #[.slice none 0 0], .int .i64 3]) (by simp [results, Tryz.results5, go_sem, z5, y5]) rfl ⟨.slice none 0 0, by first | rfl | (simp [parseV]; done) | rw [HPV.out], by first | exact pairs_nil _ _ _ | (rw [HPV.out]; exact pairs_nil _ _ _), ?_⟩
            exact (by repeat (with_reducible first | refine Below.setCell ?_ (by simp) _ | refine below_drewN ?_ _ | refine Below.alloc ?_ (by first | omega | (simp; omega)) _ | exact HB5.out))
        · have hob : (ofE ps != 0) = true := by simp [hof]
          have HPV := Aside0.mk (show parseV true true true ps s = ([], 3) by unfold parseV; rw [if_pos rfl, if_pos rfl, if_pos rfl, if_neg hof])
          clear hof
          generalize ofE ps = oe at *
          go_wp2
          show bodyPost Tryz.prog Tryz.f5 (ParsePost _ w) Exit.ret _ _
          refine bodyPost_ret (P := Tryz.prog) (fn := Tryz.f5) (v := .tuple #[.agg #[.slice none 0 0], .int .i64 3]) (by simp [results, Tryz.results5, go_sem, z4, y4, hz4]) rfl ⟨.slice none 0 0, by first | rfl | (simp [parseV]; done) | rw [HPV.out], by first | exact pairs_nil _ _ _ | (rw [HPV.out]; exact pairs_nil _ _ _), ?_⟩
          exact (by repeat (with_reducible first | refine Below.setCell ?_ (by simp) _ | refine below_drewN ?_ _ | refine Below.alloc ?_ (by first | omega | (simp; omega)) _ | exact HB4.out))
end Go.Proofs.YtbcgailnhgknnaaGreatDoor.PLabelParse
end
section
namespace Go.Proofs.YtbcgailnhgknnaaGreatDoor.PLabelParse
open Go.Proofs.YtbcgailnhgknnaaGreatDoorU8 Go.RowKit Go.Proofs.YtbcgailnhgknnaaGreatDoorW.PrintWords Go.Proofs.YtbcgailnhgknnaaGreatDoorW.PrintLast Go.Proofs.YtbcgailnhgknnaaGreatDoorW.PrintMore
attribute [local go_sem] max2_int min2_int max_two min_two max_three min_three max_four min_four   -- for this text's walks alone
set_option linter.unusedVariables false
set_option linter.unusedSimpArgs false
def awakeP : PS := [(⟨#[98]⟩, ⟨#[50]⟩), (⟨#[97]⟩, ⟨#[49]⟩)]
def awakeD : PS := [(⟨#[97]⟩, ⟨#[49]⟩), (⟨#[98]⟩, ⟨#[50]⟩)]
theorem awake_of : ofE awakeP = 0 ∧ ofL awakeP = awakeD := by
  refine of_ok ?_ (List.Perm.swap _ _ _) ?_ ?_
  · have h1 : nameB (⟨#[98]⟩ : ByteArray) = true := by decide +kernel
    have h2 : nameB (⟨#[97]⟩ : ByteArray) = true := by decide +kernel
    have h3 : u8valid (bytesOf (⟨#[50]⟩ : ByteArray)) = true := by decide +kernel
    have h4 : u8valid (bytesOf (⟨#[49]⟩ : ByteArray)) = true := by decide +kernel
    simp [awakeP, badP, h1, h2, h3, h4, ba_toList]
  · simp [Asc, awakeD, ltN, nm, ba_toList]; decide
  · simp [dupP, awakeD, dupN, nm, ba_toList]
theorem label_Set_Len.own (A : Option Addr) (n c : Nat) (w : World) : Calls Tryz.prog 6 #[.agg #[.slice A n c]] w fun e w' => e = .returned (.int .i64 n) ∧ Below w.heap.size w w' := by
  go_enter Tryz.func6, Tryz.ntmps6
  go_wp2
  go_ret
  exact ⟨rfl, (Below.refl _ _).alloc (Nat.le_refl _) _⟩
set_option maxHeartbeats 2000000 in
set_option maxRecDepth 100000 in
theorem larumlaw14_awake.own (w : World) : Calls Tryz.prog 7 #[] w fun e w' => e = .returned (.bool true) ∧ Below w.heap.size w w' := by
  have hP : PairsAt 47 (w.alloc (.cells #[.string ⟨#[98]⟩, .string ⟨#[50]⟩, .string ⟨#[97]⟩, .string ⟨#[49]⟩] 47)) w.heap.size (.slice (some ⟨w.heap.size, 0, none⟩) 2 2) awakeP :=
    ⟨rfl, .inr ⟨w.heap.size, 2, _, rfl, Nat.le_refl _, heap_alloc_new w _, Nat.le_refl _, by decide, rfl, rfl⟩⟩
  have HO := Aside0.mk (label_Of.own w.heap.size _ awakeP (by intro x hx; simp [awakeP] at hx; rcases hx with rfl | rfl <;> exact ⟨by decide, by decide⟩) (by decide) _ hP)
  have hb0 : Below w.heap.size w (w.alloc (.cells #[.string ⟨#[98]⟩, .string ⟨#[50]⟩, .string ⟨#[97]⟩, .string ⟨#[49]⟩] 47)) := (Below.refl _ w).alloc (Nat.le_refl _) _
  have HB0 := Aside0.mk hb0
  clear hP hb0
  go_enter Tryz.func7, Tryz.ntmps7
  go_wp2_with fail
  refine HO.out.mono ?_
  rintro e w4 ⟨v4, rfl, hP4, hB4⟩
  rw [awake_of.1]
  rw [awake_of.2] at hP4
  obtain ⟨A4, n4, c4, rfl⟩ := pairs_slice hP4
  obtain rfl : n4 = 2 := by
    rcases pairs_form hP4 with ⟨h, h2⟩ | ⟨g, cap, h, _⟩
    · cases h2
    · cases h; rfl
  have HP4 := Aside0.mk hP4
  have HB4 := Aside0.mk (HB0.out.trans (hB4.mono HB0.out.size))
  clear hP4 hB4 HO HB0
  have hst : ∀ x ∈ awakeD, SmallP x ∧ badP x = false := by
    intro x hx
    have h1 : nameB (⟨#[98]⟩ : ByteArray) = true := by decide +kernel
    have h2 : nameB (⟨#[97]⟩ : ByteArray) = true := by decide +kernel
    have h3 : u8valid (bytesOf (⟨#[50]⟩ : ByteArray)) = true := by decide +kernel
    have h4 : u8valid (bytesOf (⟨#[49]⟩ : ByteArray)) = true := by decide +kernel
    simp [awakeD] at hx
    rcases hx with rfl | rfl
    · exact ⟨⟨by decide, by decide⟩, by simp [badP, h2, h4, ba_toList]⟩
    · exact ⟨⟨by decide, by decide⟩, by simp [badP, h1, h3, ba_toList]⟩
  have HST := Aside0.mk (fun W base v h => label_Set_String.own base v awakeD hst (by decide +kernel) W h)
  have htx : textS awakeD = ⟨#[123, 97, 61, 34, 49, 34, 44, 98, 61, 34, 50, 34, 125]⟩ := by
    unfold textS
    rw [show textL awakeD = [123, 97, 61, 34, 49, 34, 44, 98, 61, 34, 50, 34, 125] by decide +kernel]
  have HTX := Aside0.mk htx
  clear hst htx
  go_wp2_with fail
  refine (HST.out _ _ _ (by exact pairs_below HP4.out ((Below.refl _ _).alloc (Nat.le_refl _) _))).mono ?_
  unfold StrPost
  rw [HTX.out]
  rintro e w5 ⟨rfl, hB5⟩
  have x5 : w5.cell? ⟨w4.heap.size, 0, none⟩ = some (.slice A4 2 c4) := (hB5.cell (by simp)).trans (by simp)
  have HB5 := Aside0.mk ((HB4.out.alloc HB4.out.size _).trans (hB5.mono (by have := HB4.out.size; simp; omega)))
  clear hB5 HP4 HB4
  go_wp2_with fail
  refine (label_Set_Len.own A4 2 c4 _).mono ?_
  rintro e w6 ⟨rfl, hB6⟩
  have HB6 := Aside0.mk (HB5.out.trans (hB6.mono HB5.out.size))
  clear hB6
  go_wp2
  go_ret
  exact ⟨rfl, HB6.out⟩
end Go.Proofs.YtbcgailnhgknnaaGreatDoor.PLabelParse
end
section
namespace Go.Proofs.YtbcgailnhgknnaaGreatDoor.PLabelParse
open Go.RowKit Go.Proofs.YtbcgailnhgknnaaGreatDoorW.PrintWords Go.Proofs.YtbcgailnhgknnaaGreatDoorW.PrintLast Go.Proofs.YtbcgailnhgknnaaGreatDoorW.PrintMore Go.Proofs.YtbcgailnhgknnaaGreatDoorU8
attribute [local go_sem] max2_int min2_int max_two min_two max_three min_three max_four min_four
set_option linter.unusedVariables false
set_option linter.unusedSimpArgs false
def toR (ps : PS) : List S48 := ps.map fun x => ⟨x.1, x.2⟩
theorem toR_back (ps : PS) : (toR ps).map (fun x => (x.f0, x.f1)) = ps := by
  unfold toR
  rw [List.map_map]
  exact List.map_id _
theorem parseV_cases (a b ok : Bool) (ps : PS) (s : ByteArray) : parseV a b ok ps s = ([], 3) ∨ (parseV a b ok ps s = (ofL ps, 0) ∧ ofE ps = 0 ∧ (textS (ofL ps)).toList = s.toList) := by
  unfold parseV
  (repeat' split) <;> first | exact Or.inl rfl | exact Or.inr ⟨rfl, by assumption, by assumption⟩
set_option maxHeartbeats 2000000 in
set_option maxRecDepth 100000 in
theorem LabelParse.walk (k : Nat) (s s1 : ByteArray) (h1s : (s.size ≤ 120 ∧ s1 = s) ∨ (120 < s.size ∧ s1 = s.extract 0 120)) (i1 i2 : ByteArray) (a b : Bool) (ps : PS) (ok : Bool) (w : World) (hE : ErrCell w)
    (hs : i2.size ≤ 4294967280) (h1 : strings_CutPrefix.f s1 ⟨#[123]⟩ = some (i1, a)) (h2 : strings_CutSuffix.f i1 ⟨#[125]⟩ = some (i2, b)) (h3 : label_pairs.f k i2 = some (ps, ok))
    (hsm : ∀ x ∈ ps, SmallP x) (hln : ps.length ≤ 1099511627776) (htx : (textL (ofL ps)).length ≤ 1099511627776)
    (hof : ofE ps = 0 → larumref14_Of.f k (toR (ofL ps)) = some (toR (ofL ps), 0)) (hsame : larumref14_Same.f k (toR (ofL ps)) (toR (ofL ps)) = some true) (htext : ofE ps = 0 → larumref14_Text.f k (toR (ofL ps)) = some (textS (ofL ps))) :
    Calls Tryz.prog 3 #[.string s] w fun e w' => e = .returned (.bool true) ∧ Below w.heap.size w w' := by
  have HP := Aside0.mk (fun W hW => label_Parse.own k s1 i1 i2 a b ps ok W hW hs h1 h2 h3 hsm hln htx)
  have HLN := Aside0.mk (show (ofL ps).length ≤ 1099511627776 by
    unfold ofL
    split
    · simp
    · split
      · simp
      · rw [(sortP_perm ps).length_eq]; exact hln)
  have HE := Aside0.mk hE
  have HAW := Aside0.mk (fun W => larumlaw14_awake.own W)
  have HPV := Aside0.mk (parseV_cases a b ok ps s1)
  have HX := Aside0.mk (And.intro hof (And.intro hsame htext))
  clear h1 h2 h3 hsm hln htx hE hs hof hsame htext
  go_enter Tryz.func3, Tryz.ntmps3
  rcases h1s with ⟨hsz, rfl⟩ | ⟨hsz, rfl⟩
  all_goals
    go_wp2_with fail
    refine (HP.out _ HE.out).mono ?_
    unfold ParsePost
    rintro e w1 ⟨v1, rfl, hP1, hB1⟩
    obtain ⟨A1, n1, c1, rfl⟩ := pairs_slice hP1
    have HP1 := Aside0.mk hP1
    have HB1 := Aside0.mk hB1
    clear hP1 hB1 HP
    rcases HPV.out with hpv | ⟨hpv, hoe, hte⟩
    · rw [hpv] at HP1 ⊢
      have hn : n1 = 0 := by
        rcases pairs_form HP1.out with ⟨h, _⟩ | ⟨g, cap, h, _⟩
        · cases h; rfl
        · cases h; rfl
      subst hn
      clear hpv HPV
      go_wp2_with fail
      refine (label_Set_Len.own A1 0 c1 _).mono ?_
      rintro e w2 ⟨rfl, hB2⟩
      have HB2 := Aside0.mk ((HB1.out.alloc HB1.out.size _).trans (hB2.mono (by have := HB1.out.size; simp; omega)))
      clear hB2
      go_wp2_with fail
      refine (HAW.out _).mono ?_
      rintro e w3 ⟨rfl, hB3⟩
      have HB3 := Aside0.mk (HB2.out.trans (hB3.mono HB2.out.size))
      clear hB3
      go_wp2
      go_ret
      exact ⟨rfl, HB3.out⟩
    · rw [hpv] at HP1 ⊢
      have HO := Aside0.mk (HX.out.1 hoe)
      have HT := Aside0.mk (HX.out.2.2 hoe)
      have HTE := Aside0.mk hte
      clear hpv HPV hte hoe
      go_wp2_with fail
      refine (larumlaw14_Plain.own w.heap.size (.slice A1 n1 c1) (ofL ps) HLN.out _ (by exact pairs_below HP1.out ((Below.refl _ _).alloc (Nat.le_refl _) _))).mono ?_
      unfold PlainPost
      rintro e w2 ⟨v2, rfl, hP2, hB2⟩
      have x2 : w2.cell? ⟨w1.heap.size, 0, none⟩ = some (.slice A1 n1 c1) := (hB2.cell (by simp)).trans (by simp)
      have HB2 := Aside0.mk ((HB1.out.alloc HB1.out.size _).trans (hB2.mono (by have := HB1.out.size; simp; omega)))
      have HP2 := Aside0.mk (pairs_below (pairs_below HP1.out ((Below.refl _ _).alloc (Nat.le_refl _) _)) hB2)
      have hz2 : w1.heap.size < w2.heap.size := by have := hB2.size; simp at this; omega
      obtain ⟨A2, c2, rfl, hc2, hC2⟩ := Kd.R_reads (pairs_R (f := fun x : S48 => (x.f0, x.f1)) (xs := toR (ofL ps)) (by rw [toR_back]; exact hP2))
      have HC2 := Aside0.mk hC2
      clear hB2 hP2 HP1 HB1 hC2
      go_wp2_with fail
      refine (larumref14_Of.calls k A2 c2 (toR (ofL ps)) (toR (ofL ps)) 0 w2 HC2.out hc2 HO.out).mono ?_
      rintro e w3 ⟨v3, rfl, hR3, hB3⟩
      have x3 : w3.cell? ⟨w1.heap.size, 0, none⟩ = some (.slice A1 n1 c1) := (hB3.cell hz2).trans x2
      have HB3 := Aside0.mk (HB2.out.trans (hB3.mono HB2.out.size))
      have HP3 := Aside0.mk (pairs_below HP2.out hB3)
      have hz3 : w1.heap.size < w3.heap.size := Nat.lt_of_lt_of_le hz2 hB3.size
      obtain ⟨A3, c3, rfl, hc3, hC3⟩ := Kd.R_reads hR3
      have HC3 := Aside0.mk hC3
      clear hB3 hR3 HP2 HB2 hC3 HC2 x2 hz2 hc2
      go_wp2_with fail
      refine (larumlaw14_Plain.own w.heap.size (.slice A1 n1 c1) (ofL ps) HLN.out _ HP3.out).mono ?_
      unfold PlainPost
      rintro e w4 ⟨v4, rfl, hP4, hB4⟩
      have HB4 := Aside0.mk (HB3.out.trans (hB4.mono HB3.out.size))
      have HC4 := Aside0.mk (Kd.C_below HC3.out hB4)
      obtain ⟨A4, c4, rfl, hc4, hC4⟩ := Kd.R_reads (pairs_R (f := fun x : S48 => (x.f0, x.f1)) (xs := toR (ofL ps)) (by rw [toR_back]; exact hP4))
      have HD4 := Aside0.mk hC4
      clear hB4 hP4 HP3 HB3 hC4 HC3 x3 hz3
      go_wp2_with fail
      refine (larumref14_Same.calls k A3 c3 (toR (ofL ps)) A4 c4 (toR (ofL ps)) true w4 HC4.out hc3 HD4.out hc4 HX.out.2.1).mono ?_
      rintro e w5 ⟨rfl, ⟨n5, rfl⟩⟩
      clear HD4 hc4
      go_wp2_with fail
      refine (larumref14_Text.calls k A3 c3 (toR (ofL ps)) _ _ (Kd.C_drewN HC4.out n5) hc3 HT.out).mono ?_
      rintro e w6 ⟨rfl, hB6⟩
      have HB6 := Aside0.mk ((below_drewN HB4.out n5).trans (hB6.mono (by have := HB4.out.size; simp [drewN_size]; omega)))
      clear hB6 HC4 HB4
      have hteb : ∀ z : ByteArray, (textS (ofL ps)).toList = z.toList → ((textS (ofL ps)).toList == z.toList) = true := fun z h => by rw [h]; simp
      have hq := hteb _ HTE.out
      clear hteb
      generalize textS (ofL ps) = tx at *
      go_wp2_with fail
      refine (HAW.out _).mono ?_
      rintro e w7 ⟨rfl, hB7⟩
      have HB7 := Aside0.mk (HB6.out.trans (hB7.mono HB6.out.size))
      clear hB7
      go_wp2
      go_ret
      exact ⟨rfl, HB7.out⟩
end Go.Proofs.YtbcgailnhgknnaaGreatDoor.PLabelParse
end
