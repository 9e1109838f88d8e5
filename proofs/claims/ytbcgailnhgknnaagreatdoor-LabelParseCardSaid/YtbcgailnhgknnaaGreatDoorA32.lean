/- Proved here: what functions on this claim's road compute, each as a contract over the seat's program. Conditions: each theorem's own premises. -/
import Derived.Test.YtbcgailnhgknnaaGreatDoorA01
import Derived.Test.YtbcgailnhgknnaaGreatDoorA19
import Derived.Test.YtbcgailnhgknnaaGreatDoorA26
import Derived.Test.YtbcgailnhgknnaaGreatDoorA31
import Derived.Test.YtbcgailnhgknnaaGreatDoorA10
section
namespace Go.Proofs.YtbcgailnhgknnaaGreatDoor.PLabelParse
open Go.Proofs.YtbcgailnhgknnaaGreatDoorU8 Go.RowKit Go.Proofs.YtbcgailnhgknnaaGreatDoorW.PrintWords Go.Proofs.YtbcgailnhgknnaaGreatDoorW.PrintLast Go.Proofs.YtbcgailnhgknnaaGreatDoorW.PrintMore
attribute [local go_sem] max2_int min2_int max_two min_two max_three min_three max_four min_four   -- for this text's walks alone
set_option linter.unusedVariables false
set_option linter.unusedSimpArgs false
def jtok_text.l (k : Nat) : Nat → ByteArray → Nat → List Int → Option (ByteArray × Int × Int)
  | 0, _, _, _ => none
  | n + 1, s, i, out =>
    if i < s.size then
      if bt s (i : Int) = 34 then some (strOfNums out, (i : Int) + 1, 0)
      else if bt s (i : Int) < 32 then some ((⟨#[]⟩ : ByteArray), (i : Int), 3)
      else if bt s (i : Int) = 92 then (jtok_escaped.f k s (i + 1)).bind fun q =>
        if q.2.2 = 0 then (if (i : Int) < q.2.1 ∧ q.2.1 ≤ (s.size : Int) ∧ out.length + q.1.length ≤ 1099511627776 then jtok_text.l k n s q.2.1.toNat (out ++ q.1) else none) else some ((⟨#[]⟩ : ByteArray), (i : Int), q.2.2)
      else if (u8next (bytesOf (s.extract i (min (i + 4) s.size)))).2.2 = 0 then
        (if out.length + 4 ≤ 1099511627776 then jtok_text.l k n s (i + (u8next (bytesOf (s.extract i (min (i + 4) s.size)))).2.1.toNat) (out ++ bytesOf (s.extract i (i + (u8next (bytesOf (s.extract i (min (i + 4) s.size)))).2.1.toNat))) else none)
      else some ((⟨#[]⟩ : ByteArray), (i : Int), 3)
    else some ((⟨#[]⟩ : ByteArray), (i : Int), 3)
theorem byte_info : (Tryz.prog.info? 5).map (fun i => (i.zero, i.size, i.bytes)) = some (some (.int .u8 0), 1, 1) := by kernel_rfl
theorem own_of_R {e : Nat} {w : World} {base : Nat} {ok : Nat → Prop} {v : Value} {xs : List Int} (h : (Kd.int .u8).R e w base ok v xs) : w.ownsRow base e 1 v xs.length (nums .u8 xs) := by
  obtain ⟨_, inner, ho, hr⟩ := h
  have hi : inner = nums .u8 xs := by
    apply List.ext_getElem?
    intro j
    have hl := hr.1
    have hl' : inner.length = xs.length := by rw [hl]; exact Nat.mul_one _
    rcases Nat.lt_or_ge j xs.length with hj | hj
    · have h2 := hr.2 j xs[j] (by simp [hj])
      have h3 : (inner.drop (j * 1)).take 1 = [Value.int .u8 xs[j]] := h2
      rw [Nat.mul_one] at h3
      have h4 := congrArg (fun l => l[0]?) h3
      simp only [List.getElem?_take, List.getElem?_drop] at h4
      simp at h4
      rw [h4]
      simp [nums, hj]
    · rw [List.getElem?_eq_none (by omega), List.getElem?_eq_none (by simp [nums]; omega)]
  rw [← hi]
  exact ho
set_option maxHeartbeats 4000000 in
set_option maxRecDepth 100000 in
theorem jtok_text.own (k n0 : Nat) (s : ByteArray) (i0 : Nat) (hs : s.size ≤ 1099511627776) (hi0 : i0 ≤ s.size) (r : ByteArray) (tq en : Int) (w : World) (h : jtok_text.l k n0 s i0 [] = some (r, tq, en)) :
    Calls Tryz.prog 80 #[.string s, .int .i64 i0] w fun ev w' => ∃ v1, ev = .returned (.tuple #[.string r, .int .i64 tq, v1]) ∧ Below w.heap.size w w' ∧ ((en = 0 ∧ v1 = .nilIface) ∨ (en ≠ 0 ∧ TroubleAt w' v1 en)) := by
  have H0 := Aside0.mk h
  have HI0 := Aside0.mk hi0
  clear h hi0
  go_enter Tryz.func80, Tryz.ntmps80
  go_wp2
  go_loopw [1, 7] (fun at_ v7 wr => ∃ (i n : Nat) (out : List Int), at_ = .int .i64 i ∧ i ≤ s.size ∧ Aside0 (jtok_text.l k n s i out = some (r, tq, en)) ∧ Aside0 (wr.ownsRow w.heap.size 5 1 v7 out.length (nums .u8 out)) ∧ Aside0 (Below w.heap.size w wr)) (fun at_ _ _ => s.size - (intOf at_).toNat)
  case atStart => exact ⟨i0, n0, [], rfl, HI0.out, H0, ⟨own_nil _ _ _ _⟩, ⟨Below.refl _ _⟩⟩
  case round =>
    clear H0 HI0
    obtain ⟨i, n, out, rfl, hi, HL, HO, HB⟩ := hrel
    cases n with
    | zero => exact absurd HL.out (by simp [jtok_text.l])
    | succ n =>
      have H := HL.out
      clear HL
      simp only [jtok_text.l] at H
      by_cases hlt : i < s.size
      · rw [if_pos hlt] at H
        have hx6 : ∀ hq : i < s.size, ((s[i]'hq).toNat : Int) = bt s (i : Int) := fun hq => bt_at s (i : Int) hq
        generalize bt s (i : Int) = c at *
        by_cases c34 : c = 34
        · subst c34
          simp only [if_true, Option.some.injEq, Prod.mk.injEq] at H
          obtain ⟨rfl, rfl, rfl⟩ := H
          obtain ⟨A, cc, rfl, hr⟩ := own_reads HO.out
          have hcv := own_string (P := Tryz.prog) Tryz.underlying58 Tryz.underlying5 Tryz.underlying9 HO.out
          clear HO hr
          go_wp2
          go_ret3
          exact ⟨rfl, HB.out⟩
        · rw [if_neg c34] at H
          have c34b : (c != 34) = true := by simp [c34]
          have HW := Aside0.mk (fun W => jtok_wrong.own (i : Int) 3 W)
          by_cases c32 : c < 32
          · rw [if_pos c32, Option.some.injEq, Prod.mk.injEq, Prod.mk.injEq] at H
            obtain ⟨rfl, rfl, rfl⟩ := H
            have c32b : decide (c < 32) = true := decide_eq_true c32
            clear c32 c34
            go_wp2_with (go_at_call 83; (with_reducible refine (HW.out _).mono ?_); rintro e w'' ⟨v1, rfl, hT, hB2⟩)
            go_ret3
            exact ⟨_, rfl, HB.out.trans (hB2.mono HB.out.size), Or.inr ⟨by decide, hT⟩⟩
          · rw [if_neg c32] at H
            have c32b : decide (c < 32) = false := decide_eq_false c32
            by_cases c92 : c = 92
            · subst c92
              simp only [if_true] at H
              obtain ⟨⟨qb, qi, qe⟩, hq, H⟩ := Option.bind_eq_some_iff.1 H
              have he : ∀ W, Calls Tryz.prog 104 #[.string s, .int .i64 ((i : Int) + 1)] W fun ev w' => ∃ v0 v1, ev = .returned (.tuple #[v0, .int .i64 qi, v1]) ∧ Below W.heap.size W w' ∧ ((qe = 0 ∧ v1 = .nilIface ∧ Kd.R (Kd.int .u8) 5 w' W.heap.size (fun _ => True) v0 qb) ∨ (qe ≠ 0 ∧ TroubleAt w' v1 qe)) := fun W => jtok_escaped.own k s (i + 1) hs qb qi qe W hq
              have HE := Aside0.mk he
              clear he hq c34 c32
              simp only at H
              by_cases hqe : qe = 0
              · subst hqe
                simp only [if_true] at H
                split at H
                case isFalse => cases H
                rename_i hg
                have H' := Aside0.mk H
                clear H
                obtain ⟨m, rfl⟩ := Int.eq_ofNat_of_zero_le (show 0 ≤ qi by omega)
                simp only [Int.toNat_natCast] at H'
                have HG := Aside0.mk hg
                clear hg
                go_wp2_with (first | (go_at_call 104; (with_reducible refine (HE.out _).mono ?_); rintro e w' ⟨v0, v1, rfl, hB, hor⟩; obtain ⟨rfl, hR⟩ : v1 = .nilIface ∧ Kd.R (Kd.int .u8) 5 w' wr.heap.size (fun _ => True) v0 qb := (by rcases hor with ⟨_, h1, h2⟩ | ⟨h1, _⟩; exact ⟨h1, h2⟩; exact absurd rfl h1); obtain ⟨A2, c2, rfl, hr2⟩ := own_reads (own_of_R hR); clear hR hor; have HO2 := Aside0.mk (ownsRow_below' HO.out hB); have HB2 := Aside0.mk (HB.out.trans (hB.mono HB.out.size)); have HR2 := Aside0.mk hr2; clear HO HB hB hr2) | (at_builtin; refine print_append_row (w0 := w) w.heap.size rfl (.tmp 79) (.tmp 80) 58 5 .u8 1 rfl Tryz.underlying58 byte_info (by decide) _ out qb A2 qb.length c2 rfl rfl HO2.out HR2.out HB2.out HB2.out.size (by have := HG.out; omega) ?_; intro v2 w2 hown hB3 hg3 _))
                have hg := HG.out
                exact ⟨⟨m, n, out ++ qb, rfl, by omega, H', ⟨hown⟩, ⟨hB3⟩⟩, by simp [intOf]; omega⟩
              · have hqeb : (qe != 0) = true := by simp [hqe]
                rw [if_neg hqe, Option.some.injEq, Prod.mk.injEq, Prod.mk.injEq] at H
                obtain ⟨rfl, rfl, rfl⟩ := H
                go_wp2_with (go_at_call 104; (with_reducible refine (HE.out _).mono ?_); rintro e w' ⟨v0, v1, rfl, hB, hor⟩; have hT := (hor.resolve_left (fun hh => hqe hh.1)).2; unfold TroubleAt at hT; obtain ⟨g, ga, hv, hg0, hg1⟩ := hT; subst hv; clear hor)
                go_ret3
                exact ⟨_, rfl, HB.out.trans (hB.mono HB.out.size), Or.inr ⟨hqe, g, ga, rfl, hg0, hg1⟩⟩
            · have c92b : (c == 92) = false := beq_eq_false_iff_ne.2 c92
              rw [if_neg c92] at H
              clear c92 c32 c34
              have hsp : ∃ j : Nat, min (i + 4) s.size = j ∧ i ≤ j ∧ j ≤ s.size ∧ (((i : Int) + 4 ≤ (s.size : Int)) = True ∧ ((i : Int) + 4 < (s.size : Int) ∨ j = s.size) ∧ j = i + 4 ∨ ((i : Int) + 4 ≤ (s.size : Int)) = False ∧ j = s.size) := by
                rcases Nat.lt_or_ge s.size (i + 4) with h | h
                · exact ⟨s.size, by omega, by omega, by omega, Or.inr ⟨eq_false (by omega), rfl⟩⟩
                · exact ⟨i + 4, by omega, by omega, by omega, Or.inl ⟨eq_true (by omega), by omega, rfl⟩⟩
              obtain ⟨j, hj, hij, hjs, hcase⟩ := hsp
              rw [hj] at H
              clear hj
              have hsl : (s.extract i j).size ≤ 1099511627776 := by simp; omega
              obtain ⟨A2, c2, W2, hconv, hc2, hB2, hC2⟩ := conv_bytes (P := Tryz.prog) 9 58 5 Tryz.underlying9 Tryz.underlying58 Tryz.underlying5 (s.extract i j) (by omega) wr
              have HN := Aside0.mk (utf_Next.calls A2 c2 (bytesOf (s.extract i j)) _ _ _ W2 hC2 hc2 (by unfold utf_Next.f; rw [if_pos (bytesOf_isB _)]))
              have HO2 := Aside0.mk (ownsRow_below' HO.out hB2)
              have HBB := Aside0.mk (HB.out.trans (hB2.mono HB.out.size))
              have HOK := Aside0.mk (@u8next_ok (bytesOf (s.extract i j)))
              have HBL := Aside0.mk (show (bytesOf (s.extract i j)).length = j - i by rw [bytesOf_length]; simp; omega)
              generalize u8next (bytesOf (s.extract i j)) = u at *
              obtain ⟨u1, u2, u3⟩ := u
              simp only at HN H
              clear hC2 hc2 hB2 HO HB hsl
              have hij' : ((i : Int) ≤ (j : Int)) = True := eq_true (by omega)
              have hjs' : ((j : Int) ≤ (s.size : Int)) = True := eq_true (by omega)
              rcases hcase with ⟨hc1, _, rfl⟩ | ⟨hc1, rfl⟩
              · have hmn : ((s.size : Int) < (i : Int) + 4) = False := eq_false (fun h => by have h2 := of_eq_true hc1; omega)
                by_cases hu : u3 = 0
                · subst hu
                  have e1 : ((i : Int) ≤ (i : Int) + 4) = True := eq_true (by omega)
                  simp only at HOK
                  have ho := HOK.out trivial
                  have hbl := HBL.out
                  simp only [if_true] at H
                  split at H
                  case isFalse => cases H
                  rename_i hg
                  have H' := Aside0.mk H
                  obtain ⟨m, rfl⟩ := Int.eq_ofNat_of_zero_le (show 0 ≤ u2 by omega)
                  simp only [Int.toNat_natCast] at H'
                  have e2 : ((i : Int) ≤ (i : Int) + (m : Int)) = True := eq_true (by omega)
                  have e3 : ((i : Int) + (m : Int) ≤ (s.size : Int)) = True := eq_true (by omega)
                  have e4 : wrap64 ((i : Int) + (m : Int)) = (i : Int) + (m : Int) := by unfold wrap64; omega
                  have hpl : (s.extract i (i + m)).size = m := by simp; omega
                  have HLL := Aside0.mk (show out.length + (s.extract i (i + m)).size ≤ 140737488355328 by omega)
                  have HM := Aside0.mk (show 1 ≤ m ∧ i + m ≤ s.size by omega)
                  clear H hg ho hbl hpl
                  go_wp2_with (first | (go_at_call 65; (with_reducible refine HN.out.mono ?_); rintro e w' ⟨rfl, hB3⟩; have HO3 := Aside0.mk (ownsRow_below' HO2.out hB3); have HB3 := Aside0.mk (HBB.out.trans (hB3.mono HBB.out.size)); clear hB3 HO2 HBB) | (at_builtin; refine print_append_str (w0 := w) w.heap.size rfl (.tmp 43) (.tmp 49) 58 9 5 rfl Tryz.underlying58 Tryz.underlying9 byte_info _ out (s.extract i (i + m)) rfl rfl HO3.out HB3.out HB3.out.size HLL.out ?_; intro v2 w2 hown hB6 hg6))
                  have hm := HM.out
                  rw [e4]
                  exact ⟨⟨i + m, n, out ++ bytesOf (s.extract i (i + m)), by go_num, by omega, H', ⟨hown⟩, ⟨hB6⟩⟩, by simp [intOf]; omega⟩
                · have e1 : ((i : Int) ≤ (i : Int) + 4) = True := eq_true (by omega)
                  have hub : (u3 != 0) = true := by simp [hu]
                  rw [if_neg hu, Option.some.injEq, Prod.mk.injEq, Prod.mk.injEq] at H
                  obtain ⟨rfl, rfl, rfl⟩ := H
                  go_wp2_with (first | (go_at_call 65; (with_reducible refine HN.out.mono ?_); rintro e w' ⟨rfl, hB3⟩) | (go_at_call 83; (with_reducible refine (HW.out _).mono ?_); rintro e w'' ⟨v1, rfl, hT, hB4⟩))
                  have hB5 := HBB.out.trans (hB3.mono HBB.out.size)
                  go_ret3
                  exact ⟨_, rfl, hB5.trans (hB4.mono hB5.size), Or.inr ⟨by decide, hT⟩⟩
              · have hmn : ((s.size : Int) < (i : Int) + 4) = True := eq_true (by have h2 := of_eq_false hc1; omega)
                by_cases hu : u3 = 0
                · subst hu
                  have e1 : ((i : Int) ≤ (i : Int) + 4) = True := eq_true (by omega)
                  simp only at HOK
                  have ho := HOK.out trivial
                  have hbl := HBL.out
                  simp only [if_true] at H
                  split at H
                  case isFalse => cases H
                  rename_i hg
                  have H' := Aside0.mk H
                  obtain ⟨m, rfl⟩ := Int.eq_ofNat_of_zero_le (show 0 ≤ u2 by omega)
                  simp only [Int.toNat_natCast] at H'
                  have e2 : ((i : Int) ≤ (i : Int) + (m : Int)) = True := eq_true (by omega)
                  have e3 : ((i : Int) + (m : Int) ≤ (s.size : Int)) = True := eq_true (by omega)
                  have e4 : wrap64 ((i : Int) + (m : Int)) = (i : Int) + (m : Int) := by unfold wrap64; omega
                  have hpl : (s.extract i (i + m)).size = m := by simp; omega
                  have HLL := Aside0.mk (show out.length + (s.extract i (i + m)).size ≤ 140737488355328 by omega)
                  have HM := Aside0.mk (show 1 ≤ m ∧ i + m ≤ s.size by omega)
                  clear H hg ho hbl hpl
                  go_wp2_with (first | (go_at_call 65; (with_reducible refine HN.out.mono ?_); rintro e w' ⟨rfl, hB3⟩; have HO3 := Aside0.mk (ownsRow_below' HO2.out hB3); have HB3 := Aside0.mk (HBB.out.trans (hB3.mono HBB.out.size)); clear hB3 HO2 HBB) | (at_builtin; refine print_append_str (w0 := w) w.heap.size rfl (.tmp 43) (.tmp 49) 58 9 5 rfl Tryz.underlying58 Tryz.underlying9 byte_info _ out (s.extract i (i + m)) rfl rfl HO3.out HB3.out HB3.out.size HLL.out ?_; intro v2 w2 hown hB6 hg6))
                  have hm := HM.out
                  rw [e4]
                  exact ⟨⟨i + m, n, out ++ bytesOf (s.extract i (i + m)), by go_num, by omega, H', ⟨hown⟩, ⟨hB6⟩⟩, by simp [intOf]; omega⟩
                · have e1 : ((i : Int) ≤ (i : Int) + 4) = True := eq_true (by omega)
                  have hub : (u3 != 0) = true := by simp [hu]
                  rw [if_neg hu, Option.some.injEq, Prod.mk.injEq, Prod.mk.injEq] at H
                  obtain ⟨rfl, rfl, rfl⟩ := H
                  go_wp2_with (first | (go_at_call 65; (with_reducible refine HN.out.mono ?_); rintro e w' ⟨rfl, hB3⟩) | (go_at_call 83; (with_reducible refine (HW.out _).mono ?_); rintro e w'' ⟨v1, rfl, hT, hB4⟩))
                  have hB5 := HBB.out.trans (hB3.mono HBB.out.size)
                  go_ret3
                  exact ⟨_, rfl, hB5.trans (hB4.mono hB5.size), Or.inr ⟨by decide, hT⟩⟩
      · rw [if_neg hlt, Option.some.injEq, Prod.mk.injEq, Prod.mk.injEq] at H
        obtain ⟨rfl, rfl, rfl⟩ := H
        have hie : i = s.size := by omega
        subst hie
        have HW := Aside0.mk (fun W => jtok_wrong.own (s.size : Int) 3 W)
        clear hlt hi
        go_wp2_with (go_at_call 83; (with_reducible refine (HW.out _).mono ?_); rintro e w'' ⟨v1, rfl, hT, hB2⟩)
        go_ret3
        exact ⟨_, rfl, HB.out.trans (hB2.mono HB.out.size), Or.inr ⟨by decide, hT⟩⟩
end Go.Proofs.YtbcgailnhgknnaaGreatDoor.PLabelParse
end
section
namespace Go.Proofs.YtbcgailnhgknnaaGreatDoor.PLabelParse
open Go.Proofs.YtbcgailnhgknnaaGreatDoorU8 Go.RowKit Go.Proofs.YtbcgailnhgknnaaGreatDoorW.PrintWords Go.Proofs.YtbcgailnhgknnaaGreatDoorW.PrintLast Go.Proofs.YtbcgailnhgknnaaGreatDoorW.PrintMore
attribute [local go_sem] max2_int min2_int max_two min_two max_three min_three max_four min_four   -- for this text's walks alone
set_option linter.unusedVariables false
set_option linter.unusedSimpArgs false
def jtok_wordy.f (a0 : Int) : Option (Bool) := (chars_Letter.f a0).bind fun t135 => (if t135 = true then (some true) else ((chars_Digit.f a0).bind fun t136 => (some t136)))
set_option maxHeartbeats 8000000 in
set_option maxRecDepth 100000 in
theorem jtok_wordy.calls (a0 : Int) (r : Bool) (w : World) (h : jtok_wordy.f a0 = some r) :
    Calls Tryz.prog 84 #[.int .u8 a0] w fun e w' => e = .returned (.bool r) ∧ Drawn0 w w' := by
  have H : ((chars_Letter.f a0).bind fun t135 => (if t135 = true then (some true) else ((chars_Digit.f a0).bind fun t136 => (some t136)))) = some r := h
  clear h
  replace H := Option.bind_eq_some_iff.mp H
  obtain ⟨t135, A20, H⟩ := H
  replace H : (if t135 = true then (some true) else ((chars_Digit.f a0).bind fun t136 => (some t136))) = some r := H
  have A2 := Aside0.mk A20
  clear A20
  by_cases c3 : t135 = true
  · subst c3
    have H1 : (some true) = some r := by rw [if_pos rfl] at H; exact H
    clear H
    have H := H1
    clear H1
    obtain rfl := Option.some.inj H
    go_enter Tryz.func84, Tryz.ntmps84
    go_wp2_with (first | ((with_reducible refine gate_callee (f := 64) rfl ?_); refine goesL_ (some 4) rfl rfl Tryz.func64 (by kernel_rfl) rfl #[.int .u8 a0] rfl (by (try simp only [List.map_toArray, List.map_cons, List.map_nil]); first | done | rfl | (simp only [List.length_drop, List.length_take]; rfl)) ?_; (with_reducible refine (chars_Letter.calls a0 true _ A2.out).mono ?_); rintro e w' ⟨rfl, ⟨nd, rfl⟩⟩; refine ⟨_, rfl, ?_⟩))
    go_ret
    exact ⟨by first | rfl | (simp; done) | (simp [*]; done) | (simp [wrap64]; omega) | (refine congrArg (fun b_ => Ending.returned (Value.bool b_)) ?_; generalize ByteArray.toList _ = l_; cases l_ <;> rfl), by repeat (first | exact Drawn0.refl _ | apply Drawn0.step)⟩
  · replace c3 := Bool.eq_false_iff.mpr c3
    subst c3
    have H1 : ((chars_Digit.f a0).bind fun t136 => (some t136)) = some r := by rw [if_neg (show ¬ (false = true) by decide)] at H; exact H
    clear H
    have H := H1
    clear H1
    replace H := Option.bind_eq_some_iff.mp H
    obtain ⟨t136, A40, H⟩ := H
    replace H : (some t136) = some r := H
    have A4 := Aside0.mk A40
    clear A40
    obtain rfl := Option.some.inj H
    go_enter Tryz.func84, Tryz.ntmps84
    go_wp2_with (first | ((with_reducible refine gate_callee (f := 64) rfl ?_); refine goesL_ (some 4) rfl rfl Tryz.func64 (by kernel_rfl) rfl #[.int .u8 a0] rfl (by (try simp only [List.map_toArray, List.map_cons, List.map_nil]); first | done | rfl | (simp only [List.length_drop, List.length_take]; rfl)) ?_; (with_reducible refine (chars_Letter.calls a0 false _ A2.out).mono ?_); rintro e w' ⟨rfl, ⟨nd, rfl⟩⟩; refine ⟨_, rfl, ?_⟩) | (go_at_call 45; (with_reducible refine (chars_Digit.calls a0 t136 _ A4.out).mono ?_); rintro e w' ⟨rfl, ⟨nd, rfl⟩⟩))
    go_ret
    exact ⟨by first | rfl | (simp; done) | (simp [*]; done) | (simp [wrap64]; omega) | (refine congrArg (fun b_ => Ending.returned (Value.bool b_)) ?_; generalize ByteArray.toList _ = l_; cases l_ <;> rfl), by repeat (first | exact Drawn0.refl _ | apply Drawn0.step)⟩
end Go.Proofs.YtbcgailnhgknnaaGreatDoor.PLabelParse
end
