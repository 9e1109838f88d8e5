/- Proved here: what functions on this claim's road compute, each as a contract over the seat's program. Conditions: each theorem's own premises. -/
import Derived.Shelf.Abstract
import Derived.Test.YtbcgailnhgknnaaGreatDoorA01
import Derived.Test.YtbcgailnhgknnaaGreatDoorA32
import Derived.Test.YtbcgailnhgknnaaGreatDoorA10
section
namespace Go.Proofs.YtbcgailnhgknnaaGreatDoor.PLabelParse
open Go.Proofs.YtbcgailnhgknnaaGreatDoorU8 Go.RowKit Go.Proofs.YtbcgailnhgknnaaGreatDoorW.PrintWords Go.Proofs.YtbcgailnhgknnaaGreatDoorW.PrintLast Go.Proofs.YtbcgailnhgknnaaGreatDoorW.PrintMore
attribute [local go_sem] max2_int min2_int max_two min_two max_three min_three max_four min_four   -- for this text's walks alone
set_option linter.unusedVariables false
set_option linter.unusedSimpArgs false
def jtok_numeric.f (a0 : Int) : Option (Bool) := (jtok_wordy.f a0).bind fun t137 => (if t137 = true then (some true) else (if a0 = 43 then (some true) else (if a0 = 45 then (some true) else (some (a0 == 46)))))
set_option maxHeartbeats 8000000 in
set_option maxRecDepth 100000 in
theorem jtok_numeric.calls (a0 : Int) (r : Bool) (w : World) (h : jtok_numeric.f a0 = some r) :
    Calls Tryz.prog 81 #[.int .u8 a0] w fun e w' => e = .returned (.bool r) ∧ Drawn0 w w' := by
  have H : ((jtok_wordy.f a0).bind fun t137 => (if t137 = true then (some true) else (if a0 = 43 then (some true) else (if a0 = 45 then (some true) else (some (a0 == 46)))))) = some r := h
  clear h
  replace H := Option.bind_eq_some_iff.mp H
  obtain ⟨t137, A20, H⟩ := H
  replace H : (if t137 = true then (some true) else (if a0 = 43 then (some true) else (if a0 = 45 then (some true) else (some (a0 == 46))))) = some r := H
  have A2 := Aside0.mk A20
  clear A20
  by_cases c3 : t137 = true
  · subst c3
    have H1 : (some true) = some r := by rw [if_pos rfl] at H; exact H
    clear H
    have H := H1
    clear H1
    obtain rfl := Option.some.inj H
    go_enter Tryz.func81, Tryz.ntmps81
    go_wp2_with (first | ((with_reducible refine gate_callee (f := 84) rfl ?_); refine goesL_ (some 4) rfl rfl Tryz.func84 (by kernel_rfl) rfl #[.int .u8 a0] rfl (by (try simp only [List.map_toArray, List.map_cons, List.map_nil]); first | done | rfl | (simp only [List.length_drop, List.length_take]; rfl)) ?_; (with_reducible refine (jtok_wordy.calls a0 true _ A2.out).mono ?_); rintro e w' ⟨rfl, ⟨nd, rfl⟩⟩; refine ⟨_, rfl, ?_⟩))
    go_ret
    exact ⟨by first | rfl | (simp; done) | (simp [*]; done) | (simp [wrap64]; omega) | (refine congrArg (fun b_ => Ending.returned (Value.bool b_)) ?_; generalize ByteArray.toList _ = l_; cases l_ <;> rfl), by repeat (first | exact Drawn0.refl _ | apply Drawn0.step)⟩
  · replace c3 := Bool.eq_false_iff.mpr c3
    subst c3
    have H1 : (if a0 = 43 then (some true) else (if a0 = 45 then (some true) else (some (a0 == 46)))) = some r := by rw [if_neg (show ¬ (false = true) by decide)] at H; exact H
    clear H
    have H := H1
    clear H1
    by_cases c4 : a0 = 43
    · rw [if_pos c4] at H
      have c4b0 : (a0 == 43) = true := beq_iff_eq.mpr c4
      have c4b1 : (a0 != 43) = false := bne_eq_false_iff_eq.mpr c4
      clear c4
      obtain rfl := Option.some.inj H
      go_enter Tryz.func81, Tryz.ntmps81
      go_wp2_with (first | ((with_reducible refine gate_callee (f := 84) rfl ?_); refine goesL_ (some 4) rfl rfl Tryz.func84 (by kernel_rfl) rfl #[.int .u8 a0] rfl (by (try simp only [List.map_toArray, List.map_cons, List.map_nil]); first | done | rfl | (simp only [List.length_drop, List.length_take]; rfl)) ?_; (with_reducible refine (jtok_wordy.calls a0 false _ A2.out).mono ?_); rintro e w' ⟨rfl, ⟨nd, rfl⟩⟩; refine ⟨_, rfl, ?_⟩))
      go_ret
      exact ⟨by first | rfl | (simp; done) | (simp [*]; done) | (simp [wrap64]; omega) | (refine congrArg (fun b_ => Ending.returned (Value.bool b_)) ?_; generalize ByteArray.toList _ = l_; cases l_ <;> rfl), by repeat (first | exact Drawn0.refl _ | apply Drawn0.step)⟩
    · rw [if_neg c4] at H
      have c4b0 : (a0 == 43) = false := beq_eq_false_iff_ne.mpr c4
      have c4b1 : (a0 != 43) = true := bne_iff_ne.mpr c4
      by_cases c5 : a0 = 45
      · rw [if_pos c5] at H
        have c5b0 : (a0 == 45) = true := beq_iff_eq.mpr c5
        have c5b1 : (a0 != 45) = false := bne_eq_false_iff_eq.mpr c5
        clear c5
        obtain rfl := Option.some.inj H
        go_enter Tryz.func81, Tryz.ntmps81
        go_wp2_with (first | ((with_reducible refine gate_callee (f := 84) rfl ?_); refine goesL_ (some 4) rfl rfl Tryz.func84 (by kernel_rfl) rfl #[.int .u8 a0] rfl (by (try simp only [List.map_toArray, List.map_cons, List.map_nil]); first | done | rfl | (simp only [List.length_drop, List.length_take]; rfl)) ?_; (with_reducible refine (jtok_wordy.calls a0 false _ A2.out).mono ?_); rintro e w' ⟨rfl, ⟨nd, rfl⟩⟩; refine ⟨_, rfl, ?_⟩))
        go_ret
        exact ⟨by first | rfl | (simp; done) | (simp [*]; done) | (simp [wrap64]; omega) | (refine congrArg (fun b_ => Ending.returned (Value.bool b_)) ?_; generalize ByteArray.toList _ = l_; cases l_ <;> rfl), by repeat (first | exact Drawn0.refl _ | apply Drawn0.step)⟩
      · rw [if_neg c5] at H
        have c5b0 : (a0 == 45) = false := beq_eq_false_iff_ne.mpr c5
        have c5b1 : (a0 != 45) = true := bne_iff_ne.mpr c5
        obtain rfl := Option.some.inj H
        go_enter Tryz.func81, Tryz.ntmps81
        go_wp2_with (first | ((with_reducible refine gate_callee (f := 84) rfl ?_); refine goesL_ (some 4) rfl rfl Tryz.func84 (by kernel_rfl) rfl #[.int .u8 a0] rfl (by (try simp only [List.map_toArray, List.map_cons, List.map_nil]); first | done | rfl | (simp only [List.length_drop, List.length_take]; rfl)) ?_; (with_reducible refine (jtok_wordy.calls a0 false _ A2.out).mono ?_); rintro e w' ⟨rfl, ⟨nd, rfl⟩⟩; refine ⟨_, rfl, ?_⟩))
        go_ret
        exact ⟨by first | rfl | (simp; done) | (simp [*]; done) | (simp [wrap64]; omega) | (refine congrArg (fun b_ => Ending.returned (Value.bool b_)) ?_; generalize ByteArray.toList _ = l_; cases l_ <;> rfl), by repeat (first | exact Drawn0.refl _ | apply Drawn0.step)⟩
end Go.Proofs.YtbcgailnhgknnaaGreatDoor.PLabelParse
end
section
namespace Go.Proofs.YtbcgailnhgknnaaGreatDoor.PLabelParse
open Go.Proofs.YtbcgailnhgknnaaGreatDoorU8 Go.RowKit Go.Proofs.YtbcgailnhgknnaaGreatDoorW.PrintWords Go.Proofs.YtbcgailnhgknnaaGreatDoorW.PrintLast Go.Proofs.YtbcgailnhgknnaaGreatDoorW.PrintMore
attribute [local go_sem] max2_int min2_int max_two min_two max_three min_three max_four min_four   -- for this text's walks alone
set_option linter.unusedVariables false
set_option linter.unusedSimpArgs false
def num_digits.l0 : Nat → ByteArray → Int → Int → Int → Int → Option (Int × Int)
  | 0, _, _, _, _, _ => none
  | k + 1, x0, x1, x6, x10, x11 => if x11 < x10 then (if 0 ≤ x11 then (if x11 < (x0.size : Int) then (if x6 > (IntKind.u64.wrap (Int.tdiv (IntKind.u64.wrap (x1 - (((bt x0 x11) - 48) % 256))) 10)) then (some (0, 5)) else (num_digits.l0 k x0 x1 (IntKind.u64.wrap ((IntKind.u64.wrap (x6 * 10)) + (((bt x0 x11) - 48) % 256))) x10 (wrap64 (x11 + 1)))) else (none)) else (none)) else (some (x6, 0))
def num_digits.f (k : Nat) (a0 : ByteArray) (a1 : Int) : Option (Int × Int) := num_digits.l0 k a0 a1 0 (a0.size : Int) 0
theorem num_digits.mono_l : ∀ k, (∀ y0 y1 y2 y3 y4, LeO (num_digits.l0 k y0 y1 y2 y3 y4) (num_digits.l0 (k + 1) y0 y1 y2 y3 y4))
  | 0 => fun _ _ _ _ _ r h => by simp [num_digits.l0] at h
  | k + 1 => by
    have ih0 := num_digits.mono_l k
    · intro y0 y1 y2 y3 y4
      unfold num_digits.l0
      repeat' first
      | (with_reducible exact ih0 _ _ _ _ _)
      | (with_reducible exact LeO.refl _)
      | (with_reducible exact LeO.none _)
      | (with_reducible refine LeO.ite ?_ ?_)
      | (with_reducible refine LeO.bind ?_ (fun _ => ?_))
      | exact ih0 _ _ _ _ _
      | exact LeO.none _
      | refine LeO.ite ?_ ?_
      | refine LeO.bind ?_ (fun _ => ?_)
theorem num_digits.mono : ∀ a0 a1 k, LeO (num_digits.f k a0 a1) (num_digits.f (k + 1) a0 a1) := by
  intro a0 a1 k
  have ih0 := num_digits.mono_l k
  unfold num_digits.f
  repeat' first
      | (with_reducible exact ih0 _ _ _ _ _)
      | (with_reducible exact LeO.refl _)
      | (with_reducible exact LeO.none _)
      | (with_reducible refine LeO.ite ?_ ?_)
      | (with_reducible refine LeO.bind ?_ (fun _ => ?_))
      | exact ih0 _ _ _ _ _
      | exact LeO.none _
      | refine LeO.ite ?_ ?_
      | refine LeO.bind ?_ (fun _ => ?_)
set_option maxHeartbeats 8000000 in
set_option maxRecDepth 100000 in
theorem num_digits.calls (k : Nat) (a0 : ByteArray) (a1 : Int) (r1 : Int) (r2 : Int) (w : World) (h : num_digits.f k a0 a1 = some (r1, r2)) :
    Calls Tryz.prog 105 #[.string a0, .int .u64 a1] w fun e w' => e = .returned (.tuple #[.int .u64 r1, .int .i64 r2]) ∧ Drawn0 w w' := by
  have H : (num_digits.l0 k a0 a1 0 (a0.size : Int) 0) = some (r1, r2) := h
  clear h
  have H' := Aside0.mk H
  clear H
  go_enter Tryz.func105, Tryz.ntmps105
  go_wp2
  go_loopg [6, 11] k (fun kq v6 v11 w' => ∃ (x6_1 : Int) (x11_1 : Int), v6 = .int .u64 x6_1 ∧ v11 = .int .i64 x11_1 ∧ Aside0 (num_digits.l0 kq a0 a1 x6_1 (a0.size : Int) x11_1 = some (r1, r2)) ∧ Aside0 (kq ≤ k) ∧ Drawn0 w w')
  case atStart => exact ⟨(0), (0), (by first | rfl | (simp; done) | (simp [*]; done)), (by first | rfl | (simp; done) | (simp [*]; done)), H', ⟨Nat.le_refl _⟩, by repeat (first | exact Drawn0.refl _ | apply Drawn0.step)⟩
  case round =>
    clear H'
    try clear c1
    try clear p2
    obtain ⟨x6_1, x11_1, rfl, rfl, HA, HK1, ⟨m1, rfl⟩⟩ := hrel
    cases gk with
    | zero => exact absurd HA.out (by simp [num_digits.l0])
    | succ k1 =>
      have H := HA.out
      clear HA
      simp only [num_digits.l0] at H
      by_cases c3 : x11_1 < (a0.size : Int)
      · rw [if_pos c3] at H
        have c3b0 : decide (x11_1 < (a0.size : Int)) = true := decide_eq_true c3
        clear c3
        by_cases c4 : 0 ≤ x11_1
        · rw [if_pos c4] at H
          have c4b0 : decide (0 ≤ x11_1) = true := decide_eq_true c4
          clear c4
          by_cases c5 : x11_1 < (a0.size : Int)
          · rw [if_pos c5] at H
            have c5b0 : decide (x11_1 < (a0.size : Int)) = true := decide_eq_true c5
            clear c5
            by_cases c7 : x6_1 > (IntKind.u64.wrap (Int.tdiv (IntKind.u64.wrap (a1 - (((bt a0 x11_1) - 48) % 256))) 10))
            · rw [if_pos c7] at H
              have c7b0 : decide ((IntKind.u64.wrap (Int.tdiv (IntKind.u64.wrap (a1 - (((bt a0 x11_1) - 48) % 256))) 10)) < x6_1) = true := decide_eq_true c7
              clear c7
              simp only [Option.some.injEq, Prod.mk.injEq] at H
              obtain ⟨rfl, rfl⟩ := H
              have p6 : 0 ≤ (x11_1 : Int) := of_decide_eq_true (by first | (with_reducible assumption) | assumption)
              have q6 : x11_1 < (a0.size : Int) := of_decide_eq_true (by first | (with_reducible assumption) | assumption)
              have hx6 := bt_at a0 x11_1
              replace p6 := eq_true p6
              replace q6 := eq_true q6
              go_wp2
              go_ret2
              exact ⟨by first | rfl | (simp; done) | (simp [*]; done) | (simp [wrap64]; omega) | (refine congrArg (fun b_ => Ending.returned (Value.bool b_)) ?_; generalize ByteArray.toList _ = l_; cases l_ <;> rfl), by repeat (first | exact Drawn0.refl _ | apply Drawn0.step)⟩
            · rw [if_neg c7] at H
              have c7b0 : decide ((IntKind.u64.wrap (Int.tdiv (IntKind.u64.wrap (a1 - (((bt a0 x11_1) - 48) % 256))) 10)) < x6_1) = false := decide_eq_false c7
              clear c7
              have H' := Aside0.mk H
              clear H
              have p6 : 0 ≤ (x11_1 : Int) := of_decide_eq_true (by first | (with_reducible assumption) | assumption)
              have q6 : x11_1 < (a0.size : Int) := of_decide_eq_true (by first | (with_reducible assumption) | assumption)
              have hx6 := bt_at a0 x11_1
              replace p6 := eq_true p6
              replace q6 := eq_true q6
              go_wp2
              go_roundg k1
              case measure => have := HK1.out; omega
              case rel => exact ⟨(IntKind.u64.wrap ((IntKind.u64.wrap (x6_1 * 10)) + (((bt a0 x11_1) - 48) % 256))), (wrap64 (x11_1 + 1)), (by first | rfl | (simp; done) | (simp [*]; done)), (by first | rfl | (simp; done) | (simp [*]; done)), H', ⟨by have := HK1.out; omega⟩, by repeat (first | exact Drawn0.refl _ | apply Drawn0.step)⟩
          · rw [if_neg c5] at H
            exact absurd H (by simp)
        · rw [if_neg c4] at H
          exact absurd H (by simp)
      · rw [if_neg c3] at H
        have c3b0 : decide (x11_1 < (a0.size : Int)) = false := decide_eq_false c3
        clear c3
        simp only [Option.some.injEq, Prod.mk.injEq] at H
        obtain ⟨rfl, rfl⟩ := H
        go_wp2
        go_ret2
        exact ⟨by first | rfl | (simp; done) | (simp [*]; done) | (simp [wrap64]; omega) | (refine congrArg (fun b_ => Ending.returned (Value.bool b_)) ?_; generalize ByteArray.toList _ = l_; cases l_ <;> rfl), by repeat (first | exact Drawn0.refl _ | apply Drawn0.step)⟩
end Go.Proofs.YtbcgailnhgknnaaGreatDoor.PLabelParse
end
section
namespace Go.Proofs.YtbcgailnhgknnaaGreatDoor.PLabelParse
open Go.Proofs.YtbcgailnhgknnaaGreatDoorU8 Go.RowKit Go.Proofs.YtbcgailnhgknnaaGreatDoorW.PrintWords Go.Proofs.YtbcgailnhgknnaaGreatDoorW.PrintLast Go.Proofs.YtbcgailnhgknnaaGreatDoorW.PrintMore
attribute [local go_sem] max2_int min2_int max_two min_two max_three min_three max_four min_four   -- for this text's walks alone
set_option linter.unusedVariables false
set_option linter.unusedSimpArgs false
theorem num_digit.own (c : Int) (h0 : 0 ≤ c) (h1 : c ≤ 255) (W : World) : Calls Tryz.prog 45 #[.int .u8 c] W fun e w' => e = .returned (.bool (digitB c)) ∧ Drawn0 W w' :=
  chars_Digit.calls c _ W (by unfold chars_Digit.f digitB; by_cases h : 48 ≤ c <;> simp [h])
def num_lim (m : Bool) : Int := if m then 9223372036854775808 else 9223372036854775807
def num_tail.f (k : Nat) (s : ByteArray) (m : Bool) : Option (Int × Int) :=
  if s.size = 0 then some (0, 3) else if ((List.range s.size).all fun i => digitB (bt s (i : Int))) = false then some (0, 3)
  else if 1 < s.size ∧ bt s 0 = 48 then some (0, 3) else (num_digits.f k s (num_lim m)).bind fun q => if q.2 = 0 then (if m = true then some (wrap64 (IntKind.u64.wrap (-q.1)), 0) else some (wrap64 q.1, 0)) else some (0, q.2)
def num_Parse.f (k : Nat) (a0 : ByteArray) : Option (Int × Int) :=
  if a0.size ≤ 9223372036854775807 then (if 0 < a0.size ∧ bt a0 0 = 45 then num_tail.f k (a0.extract 1 a0.size) true else num_tail.f k a0 false) else none
set_option maxHeartbeats 1000000 in
set_option maxRecDepth 100000 in
theorem num_Parse.calls (k : Nat) (a0 : ByteArray) (r1 r2 : Int) (w : World) (h : num_Parse.f k a0 = some (r1, r2)) :
    Calls Tryz.prog 82 #[.string a0] w fun e w' => e = .returned (.tuple #[.int .i64 r1, .int .i64 r2]) ∧ Drawn0 w w' := by
  unfold num_Parse.f at h
  split at h
  case isFalse => cases h
  rename_i hs
  have eg : ∀ args w, (callFunc 45 args).run Tryz.prog w = .ok (.enter 45 args) w := enters_of Tryz.func45 (by kernel_rfl) rfl
  have HALL := Aside0.mk (fun (s : ByteArray) (hs : s.size ≤ 9223372036854775807) W => chars_All.own s hs 45 digitB W eg (fun c W h0 h1 => num_digit.own c h0 h1 W))
  clear eg
  by_cases hm : 0 < a0.size ∧ bt a0 0 = 45
  · rw [if_pos hm] at h
    have hx : ∀ hq : 0 < a0.size, ((a0[0]'hq).toNat : Int) = 45 := fun hq => (bt_at a0 0 hq).trans hm.2
    have hp := hm.1
    have H' := Aside0.mk h
    clear h hm
    by_cases e0 : (a0.extract 1 a0.size).size = 0
    · have h := H'.out
      unfold num_tail.f at h
      rw [if_pos e0, Option.some.injEq, Prod.mk.injEq] at h
      obtain ⟨rfl, rfl⟩ := h
      have en : (a0.extract 1 a0.size).toList = [] := (ba_nil _).2 e0
      have enb : ((a0.extract 1 a0.size).toList == ([] : List UInt8)) = true := by simp [en]
      have ENB := Aside0.mk en
      clear e0 H' HALL
      go_enter Tryz.func82, Tryz.ntmps82
      go_wp2
      all_goals (go_ret2; exact ⟨rfl, Drawn0.refl _⟩)
    · have en : ¬ (a0.extract 1 a0.size).toList = [] := fun h => e0 ((ba_nil _).1 h)
      have enb : ((a0.extract 1 a0.size).toList == ([] : List UInt8)) = false := by simpa using en
      have E0 := Aside0.mk e0
      have hsz0 := Aside0.mk (show (a0.extract 1 a0.size).size ≤ 9223372036854775807 by first | exact hs | (simp; omega))
      clear e0
      go_enter Tryz.func82, Tryz.ntmps82
      go_wp2_with fail
      have e0 := E0.out
      have hsz := hsz0.out
      clear E0 hsz0 en enb
      generalize a0.extract 1 a0.size = S at *
      refine (HALL.out S hsz _).mono ?_
      rintro e w' ⟨rfl, ⟨n1, rfl⟩⟩
      have H := H'.out
      clear H' HALL
      unfold num_tail.f at H
      rw [if_neg e0] at H
      generalize (List.range S.size).all (fun i => digitB (bt S (i : Int))) = b at *
      have hx0 : ∀ hq : 0 < S.size, ((S[0]'hq).toNat : Int) = bt S 0 := fun hq => bt_at S 0 hq
      generalize bt S 0 = c0 at *
      cases b with
      | false =>
        rw [if_pos rfl, Option.some.injEq, Prod.mk.injEq] at H
        obtain ⟨rfl, rfl⟩ := H
        go_wp2
        go_ret2
        exact ⟨rfl, ⟨n1, rfl⟩⟩
      | true =>
        simp only [Bool.true_eq_false, if_false] at H
        by_cases h1 : 1 < S.size
        · have h1b : decide (1 < S.size) = true := decide_eq_true h1
          by_cases h48 : c0 = 48
          · subst h48
            rw [if_pos ⟨h1, rfl⟩, Option.some.injEq, Prod.mk.injEq] at H
            obtain ⟨rfl, rfl⟩ := H
            go_wp2
            go_ret2
            exact ⟨rfl, ⟨n1, rfl⟩⟩
          · have h48b : (c0 == 48) = false := beq_eq_false_iff_ne.2 h48
            have hz : ¬ (1 < S.size ∧ c0 = 48) := fun h => h48 h.2
            rw [if_neg hz] at H
            obtain ⟨⟨v, e⟩, hd, H⟩ := Option.bind_eq_some_iff.1 H
            have HD := Aside0.mk (fun W => num_digits.calls k S (num_lim true) v e W hd)
            clear hd hz
            simp only [num_lim, if_true, Bool.false_eq_true, if_false] at HD H
            by_cases he : e = 0
            · subst he
              simp only [if_true, Bool.false_eq_true, if_false, Option.some.injEq, Prod.mk.injEq, and_true] at H
              obtain ⟨rfl, rfl⟩ := H
              go_wp2_with (go_at_call 105; (with_reducible refine (HD.out _).mono ?_); rintro e w' ⟨rfl, ⟨n2, rfl⟩⟩)
              go_ret2
              refine ⟨?_, ⟨n1 + n2, rfl⟩⟩
              first | rfl | (simp [wrap64]; done) | skip
            · have heb : (e != 0) = true := by simp [he]
              rw [if_neg he, Option.some.injEq, Prod.mk.injEq] at H
              obtain ⟨rfl, rfl⟩ := H
              go_wp2_with (go_at_call 105; (with_reducible refine (HD.out _).mono ?_); rintro e w' ⟨rfl, ⟨n2, rfl⟩⟩)
              go_ret2
              exact ⟨rfl, ⟨n1 + n2, rfl⟩⟩
        · have h1b : decide (1 < S.size) = false := decide_eq_false h1
          have hz : ¬ (1 < S.size ∧ c0 = 48) := fun h => h1 h.1
          rw [if_neg hz] at H
          obtain ⟨⟨v, e⟩, hd, H⟩ := Option.bind_eq_some_iff.1 H
          have HD := Aside0.mk (fun W => num_digits.calls k S (num_lim true) v e W hd)
          clear hd hz
          simp only [num_lim, if_true, Bool.false_eq_true, if_false] at HD H
          by_cases he : e = 0
          · subst he
            simp only [if_true, Bool.false_eq_true, if_false, Option.some.injEq, Prod.mk.injEq, and_true] at H
            obtain ⟨rfl, rfl⟩ := H
            go_wp2_with (go_at_call 105; (with_reducible refine (HD.out _).mono ?_); rintro e w' ⟨rfl, ⟨n2, rfl⟩⟩)
            go_ret2
            refine ⟨?_, ⟨n1 + n2, rfl⟩⟩
            first | rfl | (simp [wrap64]; done) | skip
          · have heb : (e != 0) = true := by simp [he]
            rw [if_neg he, Option.some.injEq, Prod.mk.injEq] at H
            obtain ⟨rfl, rfl⟩ := H
            go_wp2_with (go_at_call 105; (with_reducible refine (HD.out _).mono ?_); rintro e w' ⟨rfl, ⟨n2, rfl⟩⟩)
            go_ret2
            exact ⟨rfl, ⟨n1 + n2, rfl⟩⟩
  · rw [if_neg hm] at h
    have H' := Aside0.mk h
    have hx : ∀ hq : 0 < a0.size, (((a0[0]'hq).toNat : Int) == 45) = false := fun hq => beq_eq_false_iff_ne.2 (fun h => hm ⟨hq, (bt_at a0 0 hq).symm.trans h⟩)
    clear h hm
    by_cases e0 : (a0).size = 0
    · have h := H'.out
      unfold num_tail.f at h
      rw [if_pos e0, Option.some.injEq, Prod.mk.injEq] at h
      obtain ⟨rfl, rfl⟩ := h
      have en : (a0).toList = [] := (ba_nil _).2 e0
      have enb : ((a0).toList == ([] : List UInt8)) = true := by simp [en]
      have ENB := Aside0.mk en
      clear e0 H' HALL
      go_enter Tryz.func82, Tryz.ntmps82
      go_wp2
      all_goals (go_ret2; exact ⟨rfl, Drawn0.refl _⟩)
    · have en : ¬ (a0).toList = [] := fun h => e0 ((ba_nil _).1 h)
      have enb : ((a0).toList == ([] : List UInt8)) = false := by simpa using en
      have E0 := Aside0.mk e0
      have hsz0 := Aside0.mk (show (a0).size ≤ 9223372036854775807 by first | exact hs | (simp; omega))
      have hp : 0 < a0.size := by omega
      clear e0
      go_enter Tryz.func82, Tryz.ntmps82
      go_wp2_with fail
      have e0 := E0.out
      have hsz := hsz0.out
      clear E0 hsz0 en enb
      obtain ⟨S, rfl⟩ : ∃ S, S = a0 := ⟨a0, rfl⟩
      refine (HALL.out S hsz _).mono ?_
      rintro e w' ⟨rfl, ⟨n1, rfl⟩⟩
      have H := H'.out
      clear H' HALL
      unfold num_tail.f at H
      rw [if_neg e0] at H
      generalize (List.range S.size).all (fun i => digitB (bt S (i : Int))) = b at *
      have hx0 : ∀ hq : 0 < S.size, ((S[0]'hq).toNat : Int) = bt S 0 := fun hq => bt_at S 0 hq
      generalize bt S 0 = c0 at *
      cases b with
      | false =>
        rw [if_pos rfl, Option.some.injEq, Prod.mk.injEq] at H
        obtain ⟨rfl, rfl⟩ := H
        go_wp2
        go_ret2
        exact ⟨rfl, ⟨n1, rfl⟩⟩
      | true =>
        simp only [Bool.true_eq_false, if_false] at H
        by_cases h1 : 1 < S.size
        · have h1b : decide (1 < S.size) = true := decide_eq_true h1
          by_cases h48 : c0 = 48
          · subst h48
            rw [if_pos ⟨h1, rfl⟩, Option.some.injEq, Prod.mk.injEq] at H
            obtain ⟨rfl, rfl⟩ := H
            go_wp2
            go_ret2
            exact ⟨rfl, ⟨n1, rfl⟩⟩
          · have h48b : (c0 == 48) = false := beq_eq_false_iff_ne.2 h48
            have hz : ¬ (1 < S.size ∧ c0 = 48) := fun h => h48 h.2
            rw [if_neg hz] at H
            obtain ⟨⟨v, e⟩, hd, H⟩ := Option.bind_eq_some_iff.1 H
            have HD := Aside0.mk (fun W => num_digits.calls k S (num_lim false) v e W hd)
            clear hd hz
            simp only [num_lim, if_true, Bool.false_eq_true, if_false] at HD H
            by_cases he : e = 0
            · subst he
              simp only [if_true, Bool.false_eq_true, if_false, Option.some.injEq, Prod.mk.injEq, and_true] at H
              obtain ⟨rfl, rfl⟩ := H
              go_wp2_with (go_at_call 105; (with_reducible refine (HD.out _).mono ?_); rintro e w' ⟨rfl, ⟨n2, rfl⟩⟩)
              go_ret2
              refine ⟨?_, ⟨n1 + n2, rfl⟩⟩
              first | rfl | (simp [wrap64]; done) | skip
            · have heb : (e != 0) = true := by simp [he]
              rw [if_neg he, Option.some.injEq, Prod.mk.injEq] at H
              obtain ⟨rfl, rfl⟩ := H
              go_wp2_with (go_at_call 105; (with_reducible refine (HD.out _).mono ?_); rintro e w' ⟨rfl, ⟨n2, rfl⟩⟩)
              go_ret2
              exact ⟨rfl, ⟨n1 + n2, rfl⟩⟩
        · have h1b : decide (1 < S.size) = false := decide_eq_false h1
          have hz : ¬ (1 < S.size ∧ c0 = 48) := fun h => h1 h.1
          rw [if_neg hz] at H
          obtain ⟨⟨v, e⟩, hd, H⟩ := Option.bind_eq_some_iff.1 H
          have HD := Aside0.mk (fun W => num_digits.calls k S (num_lim false) v e W hd)
          clear hd hz
          simp only [num_lim, if_true, Bool.false_eq_true, if_false] at HD H
          by_cases he : e = 0
          · subst he
            simp only [if_true, Bool.false_eq_true, if_false, Option.some.injEq, Prod.mk.injEq, and_true] at H
            obtain ⟨rfl, rfl⟩ := H
            go_wp2_with (go_at_call 105; (with_reducible refine (HD.out _).mono ?_); rintro e w' ⟨rfl, ⟨n2, rfl⟩⟩)
            go_ret2
            refine ⟨?_, ⟨n1 + n2, rfl⟩⟩
            first | rfl | (simp [wrap64]; done) | skip
          · have heb : (e != 0) = true := by simp [he]
            rw [if_neg he, Option.some.injEq, Prod.mk.injEq] at H
            obtain ⟨rfl, rfl⟩ := H
            go_wp2_with (go_at_call 105; (with_reducible refine (HD.out _).mono ?_); rintro e w' ⟨rfl, ⟨n2, rfl⟩⟩)
            go_ret2
            exact ⟨rfl, ⟨n1 + n2, rfl⟩⟩
end Go.Proofs.YtbcgailnhgknnaaGreatDoor.PLabelParse
end
