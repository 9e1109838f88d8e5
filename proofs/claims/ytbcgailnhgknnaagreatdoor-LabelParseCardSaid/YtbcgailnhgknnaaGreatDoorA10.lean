/- Proved here: what functions on this claim's road compute, each as a contract over the seat's program. Conditions: each theorem's own premises. -/
import Derived.Shelf.Abstract
import Derived.Test.YtbcgailnhgknnaaGreatDoorA01
section
namespace Go.Proofs.YtbcgailnhgknnaaGreatDoor.PLabelParse
open Go.Proofs.YtbcgailnhgknnaaGreatDoorU8 Go.RowKit Go.Proofs.YtbcgailnhgknnaaGreatDoorW.PrintWords Go.Proofs.YtbcgailnhgknnaaGreatDoorW.PrintLast Go.Proofs.YtbcgailnhgknnaaGreatDoorW.PrintMore
attribute [local go_sem] max2_int min2_int max_two min_two max_three min_three max_four min_four   -- for this text's walks alone
set_option linter.unusedVariables false
set_option linter.unusedSimpArgs false
def chars_Digit.f (a0 : Int) : Option (Bool) := if a0 ≥ 48 then (some (decide (a0 ≤ 57))) else (some false)
set_option maxHeartbeats 8000000 in
set_option maxRecDepth 100000 in
theorem chars_Digit.calls (a0 : Int) (r : Bool) (w : World) (h : chars_Digit.f a0 = some r) :
    Calls Tryz.prog 45 #[.int .u8 a0] w fun e w' => e = .returned (.bool r) ∧ Drawn0 w w' := by
  have H : (if a0 ≥ 48 then (some (decide (a0 ≤ 57))) else (some false)) = some r := h
  clear h
  by_cases c2 : a0 ≥ 48
  · rw [if_pos c2] at H
    have c2b0 : decide (48 ≤ a0) = true := decide_eq_true c2
    clear c2
    obtain rfl := Option.some.inj H
    go_enter Tryz.func45, Tryz.ntmps45
    go_wp2
    go_ret
    exact ⟨by first | rfl | (simp; done) | (simp [*]; done) | (simp [wrap64]; omega) | (refine congrArg (fun b_ => Ending.returned (Value.bool b_)) ?_; generalize ByteArray.toList _ = l_; cases l_ <;> rfl), by repeat (first | exact Drawn0.refl _ | apply Drawn0.step)⟩
  · rw [if_neg c2] at H
    have c2b0 : decide (48 ≤ a0) = false := decide_eq_false c2
    clear c2
    obtain rfl := Option.some.inj H
    go_enter Tryz.func45, Tryz.ntmps45
    go_wp2
    go_ret
    exact ⟨by first | rfl | (simp; done) | (simp [*]; done) | (simp [wrap64]; omega) | (refine congrArg (fun b_ => Ending.returned (Value.bool b_)) ?_; generalize ByteArray.toList _ = l_; cases l_ <;> rfl), by repeat (first | exact Drawn0.refl _ | apply Drawn0.step)⟩
end Go.Proofs.YtbcgailnhgknnaaGreatDoor.PLabelParse
end
section
namespace Go.Proofs.YtbcgailnhgknnaaGreatDoor.PLabelParse
open Go.Proofs.YtbcgailnhgknnaaGreatDoorU8 Go.RowKit Go.Proofs.YtbcgailnhgknnaaGreatDoorW.PrintWords Go.Proofs.YtbcgailnhgknnaaGreatDoorW.PrintLast Go.Proofs.YtbcgailnhgknnaaGreatDoorW.PrintMore
attribute [local go_sem] max2_int min2_int max_two min_two max_three min_three max_four min_four   -- for this text's walks alone
set_option linter.unusedVariables false
set_option linter.unusedSimpArgs false
def chars_great.f (a0 : Int) : Option (Bool) := if a0 ≥ 65 then (some (decide (a0 ≤ 90))) else (some false)
set_option maxHeartbeats 8000000 in
set_option maxRecDepth 100000 in
theorem chars_great.calls (a0 : Int) (r : Bool) (w : World) (h : chars_great.f a0 = some r) :
    Calls Tryz.prog 91 #[.int .u8 a0] w fun e w' => e = .returned (.bool r) ∧ Drawn0 w w' := by
  have H : (if a0 ≥ 65 then (some (decide (a0 ≤ 90))) else (some false)) = some r := h
  clear h
  by_cases c2 : a0 ≥ 65
  · rw [if_pos c2] at H
    have c2b0 : decide (65 ≤ a0) = true := decide_eq_true c2
    clear c2
    obtain rfl := Option.some.inj H
    go_enter Tryz.func91, Tryz.ntmps91
    go_wp2
    go_ret
    exact ⟨by first | rfl | (simp; done) | (simp [*]; done) | (simp [wrap64]; omega) | (refine congrArg (fun b_ => Ending.returned (Value.bool b_)) ?_; generalize ByteArray.toList _ = l_; cases l_ <;> rfl), by repeat (first | exact Drawn0.refl _ | apply Drawn0.step)⟩
  · rw [if_neg c2] at H
    have c2b0 : decide (65 ≤ a0) = false := decide_eq_false c2
    clear c2
    obtain rfl := Option.some.inj H
    go_enter Tryz.func91, Tryz.ntmps91
    go_wp2
    go_ret
    exact ⟨by first | rfl | (simp; done) | (simp [*]; done) | (simp [wrap64]; omega) | (refine congrArg (fun b_ => Ending.returned (Value.bool b_)) ?_; generalize ByteArray.toList _ = l_; cases l_ <;> rfl), by repeat (first | exact Drawn0.refl _ | apply Drawn0.step)⟩
end Go.Proofs.YtbcgailnhgknnaaGreatDoor.PLabelParse
end
section
namespace Go.Proofs.YtbcgailnhgknnaaGreatDoor.PLabelParse
open Go.Proofs.YtbcgailnhgknnaaGreatDoorU8 Go.RowKit Go.Proofs.YtbcgailnhgknnaaGreatDoorW.PrintWords Go.Proofs.YtbcgailnhgknnaaGreatDoorW.PrintLast Go.Proofs.YtbcgailnhgknnaaGreatDoorW.PrintMore
attribute [local go_sem] max2_int min2_int max_two min_two max_three min_three max_four min_four   -- for this text's walks alone
set_option linter.unusedVariables false
set_option linter.unusedSimpArgs false
def chars_Letter.f (a0 : Int) : Option (Bool) := (chars_great.f a0).bind fun t101 => (if t101 = true then (some true) else (if a0 ≥ 97 then (some (decide (a0 ≤ 122))) else (some false)))
set_option maxHeartbeats 8000000 in
set_option maxRecDepth 100000 in
theorem chars_Letter.calls (a0 : Int) (r : Bool) (w : World) (h : chars_Letter.f a0 = some r) :
    Calls Tryz.prog 64 #[.int .u8 a0] w fun e w' => e = .returned (.bool r) ∧ Drawn0 w w' := by
  have H : ((chars_great.f a0).bind fun t101 => (if t101 = true then (some true) else (if a0 ≥ 97 then (some (decide (a0 ≤ 122))) else (some false)))) = some r := h
  clear h
  replace H := Option.bind_eq_some_iff.mp H
  obtain ⟨t101, A20, H⟩ := H
  replace H : (if t101 = true then (some true) else (if a0 ≥ 97 then (some (decide (a0 ≤ 122))) else (some false))) = some r := H
  have A2 := Aside0.mk A20
  clear A20
  by_cases c3 : t101 = true
  · subst c3
    have H1 : (some true) = some r := by rw [if_pos rfl] at H; exact H
    clear H
    have H := H1
    clear H1
    obtain rfl := Option.some.inj H
    go_enter Tryz.func64, Tryz.ntmps64
    go_wp2_with (first | ((with_reducible refine gate_callee (f := 91) rfl ?_); refine goesL_ (some 4) rfl rfl Tryz.func91 (by kernel_rfl) rfl #[.int .u8 a0] rfl (by (try simp only [List.map_toArray, List.map_cons, List.map_nil]); first | done | rfl | (simp only [List.length_drop, List.length_take]; rfl)) ?_; (with_reducible refine (chars_great.calls a0 true _ A2.out).mono ?_); rintro e w' ⟨rfl, ⟨nd, rfl⟩⟩; refine ⟨_, rfl, ?_⟩))
    go_ret
    exact ⟨by first | rfl | (simp; done) | (simp [*]; done) | (simp [wrap64]; omega) | (refine congrArg (fun b_ => Ending.returned (Value.bool b_)) ?_; generalize ByteArray.toList _ = l_; cases l_ <;> rfl), by repeat (first | exact Drawn0.refl _ | apply Drawn0.step)⟩
  · replace c3 := Bool.eq_false_iff.mpr c3
    subst c3
    have H1 : (if a0 ≥ 97 then (some (decide (a0 ≤ 122))) else (some false)) = some r := by rw [if_neg (show ¬ (false = true) by decide)] at H; exact H
    clear H
    have H := H1
    clear H1
    by_cases c4 : a0 ≥ 97
    · rw [if_pos c4] at H
      have c4b0 : decide (97 ≤ a0) = true := decide_eq_true c4
      clear c4
      obtain rfl := Option.some.inj H
      go_enter Tryz.func64, Tryz.ntmps64
      go_wp2_with (first | ((with_reducible refine gate_callee (f := 91) rfl ?_); refine goesL_ (some 4) rfl rfl Tryz.func91 (by kernel_rfl) rfl #[.int .u8 a0] rfl (by (try simp only [List.map_toArray, List.map_cons, List.map_nil]); first | done | rfl | (simp only [List.length_drop, List.length_take]; rfl)) ?_; (with_reducible refine (chars_great.calls a0 false _ A2.out).mono ?_); rintro e w' ⟨rfl, ⟨nd, rfl⟩⟩; refine ⟨_, rfl, ?_⟩))
      go_ret
      exact ⟨by first | rfl | (simp; done) | (simp [*]; done) | (simp [wrap64]; omega) | (refine congrArg (fun b_ => Ending.returned (Value.bool b_)) ?_; generalize ByteArray.toList _ = l_; cases l_ <;> rfl), by repeat (first | exact Drawn0.refl _ | apply Drawn0.step)⟩
    · rw [if_neg c4] at H
      have c4b0 : decide (97 ≤ a0) = false := decide_eq_false c4
      clear c4
      obtain rfl := Option.some.inj H
      go_enter Tryz.func64, Tryz.ntmps64
      go_wp2_with (first | ((with_reducible refine gate_callee (f := 91) rfl ?_); refine goesL_ (some 4) rfl rfl Tryz.func91 (by kernel_rfl) rfl #[.int .u8 a0] rfl (by (try simp only [List.map_toArray, List.map_cons, List.map_nil]); first | done | rfl | (simp only [List.length_drop, List.length_take]; rfl)) ?_; (with_reducible refine (chars_great.calls a0 false _ A2.out).mono ?_); rintro e w' ⟨rfl, ⟨nd, rfl⟩⟩; refine ⟨_, rfl, ?_⟩))
      go_ret
      exact ⟨by first | rfl | (simp; done) | (simp [*]; done) | (simp [wrap64]; omega) | (refine congrArg (fun b_ => Ending.returned (Value.bool b_)) ?_; generalize ByteArray.toList _ = l_; cases l_ <;> rfl), by repeat (first | exact Drawn0.refl _ | apply Drawn0.step)⟩
end Go.Proofs.YtbcgailnhgknnaaGreatDoor.PLabelParse
end
section
namespace Go.Proofs.YtbcgailnhgknnaaGreatDoor.PLabelParse
open Go.Proofs.YtbcgailnhgknnaaGreatDoorU8 Go.RowKit Go.Proofs.YtbcgailnhgknnaaGreatDoorW.PrintWords Go.Proofs.YtbcgailnhgknnaaGreatDoorW.PrintLast Go.Proofs.YtbcgailnhgknnaaGreatDoorW.PrintMore
attribute [local go_sem] max2_int min2_int max_two min_two max_three min_three max_four min_four   -- for this text's walks alone
set_option linter.unusedVariables false
set_option linter.unusedSimpArgs false
def label_inName.f (a0 : Int) : Option (Bool) := (chars_Letter.f a0).bind fun t102 => (if t102 = true then (some true) else ((chars_Digit.f a0).bind fun t103 => (if t103 = true then (some true) else (some (a0 == 95)))))
set_option maxHeartbeats 8000000 in
set_option maxRecDepth 100000 in
theorem label_inName.calls (a0 : Int) (r : Bool) (w : World) (h : label_inName.f a0 = some r) :
    Calls Tryz.prog 47 #[.int .u8 a0] w fun e w' => e = .returned (.bool r) ∧ Drawn0 w w' := by
  have H : ((chars_Letter.f a0).bind fun t102 => (if t102 = true then (some true) else ((chars_Digit.f a0).bind fun t103 => (if t103 = true then (some true) else (some (a0 == 95)))))) = some r := h
  clear h
  replace H := Option.bind_eq_some_iff.mp H
  obtain ⟨t102, A20, H⟩ := H
  replace H : (if t102 = true then (some true) else ((chars_Digit.f a0).bind fun t103 => (if t103 = true then (some true) else (some (a0 == 95))))) = some r := H
  have A2 := Aside0.mk A20
  clear A20
  by_cases c3 : t102 = true
  · subst c3
    have H1 : (some true) = some r := by rw [if_pos rfl] at H; exact H
    clear H
    have H := H1
    clear H1
    obtain rfl := Option.some.inj H
    go_enter Tryz.func47, Tryz.ntmps47
    go_wp2_with (first | ((with_reducible refine gate_callee (f := 64) rfl ?_); refine goesL_ (some 4) rfl rfl Tryz.func64 (by kernel_rfl) rfl #[.int .u8 a0] rfl (by (try simp only [List.map_toArray, List.map_cons, List.map_nil]); first | done | rfl | (simp only [List.length_drop, List.length_take]; rfl)) ?_; (with_reducible refine (chars_Letter.calls a0 true _ A2.out).mono ?_); rintro e w' ⟨rfl, ⟨nd, rfl⟩⟩; refine ⟨_, rfl, ?_⟩))
    go_ret
    exact ⟨by first | rfl | (simp; done) | (simp [*]; done) | (simp [wrap64]; omega) | (refine congrArg (fun b_ => Ending.returned (Value.bool b_)) ?_; generalize ByteArray.toList _ = l_; cases l_ <;> rfl), by repeat (first | exact Drawn0.refl _ | apply Drawn0.step)⟩
  · replace c3 := Bool.eq_false_iff.mpr c3
    subst c3
    have H1 : ((chars_Digit.f a0).bind fun t103 => (if t103 = true then (some true) else (some (a0 == 95)))) = some r := by rw [if_neg (show ¬ (false = true) by decide)] at H; exact H
    clear H
    have H := H1
    clear H1
    replace H := Option.bind_eq_some_iff.mp H
    obtain ⟨t103, A40, H⟩ := H
    replace H : (if t103 = true then (some true) else (some (a0 == 95))) = some r := H
    have A4 := Aside0.mk A40
    clear A40
    by_cases c5 : t103 = true
    · subst c5
      have H1 : (some true) = some r := by rw [if_pos rfl] at H; exact H
      clear H
      have H := H1
      clear H1
      obtain rfl := Option.some.inj H
      go_enter Tryz.func47, Tryz.ntmps47
      go_wp2_with (first | ((with_reducible refine gate_callee (f := 64) rfl ?_); refine goesL_ (some 4) rfl rfl Tryz.func64 (by kernel_rfl) rfl #[.int .u8 a0] rfl (by (try simp only [List.map_toArray, List.map_cons, List.map_nil]); first | done | rfl | (simp only [List.length_drop, List.length_take]; rfl)) ?_; (with_reducible refine (chars_Letter.calls a0 false _ A2.out).mono ?_); rintro e w' ⟨rfl, ⟨nd, rfl⟩⟩; refine ⟨_, rfl, ?_⟩) | (go_at_call 45; (with_reducible refine (chars_Digit.calls a0 true _ A4.out).mono ?_); rintro e w' ⟨rfl, ⟨nd, rfl⟩⟩))
      go_ret
      exact ⟨by first | rfl | (simp; done) | (simp [*]; done) | (simp [wrap64]; omega) | (refine congrArg (fun b_ => Ending.returned (Value.bool b_)) ?_; generalize ByteArray.toList _ = l_; cases l_ <;> rfl), by repeat (first | exact Drawn0.refl _ | apply Drawn0.step)⟩
    · replace c5 := Bool.eq_false_iff.mpr c5
      subst c5
      have H1 : (some (a0 == 95)) = some r := by rw [if_neg (show ¬ (false = true) by decide)] at H; exact H
      clear H
      have H := H1
      clear H1
      obtain rfl := Option.some.inj H
      go_enter Tryz.func47, Tryz.ntmps47
      go_wp2_with (first | ((with_reducible refine gate_callee (f := 64) rfl ?_); refine goesL_ (some 4) rfl rfl Tryz.func64 (by kernel_rfl) rfl #[.int .u8 a0] rfl (by (try simp only [List.map_toArray, List.map_cons, List.map_nil]); first | done | rfl | (simp only [List.length_drop, List.length_take]; rfl)) ?_; (with_reducible refine (chars_Letter.calls a0 false _ A2.out).mono ?_); rintro e w' ⟨rfl, ⟨nd, rfl⟩⟩; refine ⟨_, rfl, ?_⟩) | (go_at_call 45; (with_reducible refine (chars_Digit.calls a0 false _ A4.out).mono ?_); rintro e w' ⟨rfl, ⟨nd, rfl⟩⟩))
      go_ret
      exact ⟨by first | rfl | (simp; done) | (simp [*]; done) | (simp [wrap64]; omega) | (refine congrArg (fun b_ => Ending.returned (Value.bool b_)) ?_; generalize ByteArray.toList _ = l_; cases l_ <;> rfl), by repeat (first | exact Drawn0.refl _ | apply Drawn0.step)⟩
def label_inName.Pure : Prop := ∀ (a0 : Int), (Lit.int .u8 a0).wf = true → label_inName.f a0 = some true
theorem label_inName.walk (P : label_inName.Pure) (a0 : Int) (w : World) (w0 : (Lit.int .u8 a0).wf = true) :
    Calls Tryz.prog 47 #[.int .u8 a0] w fun e w' => e = .returned (.bool true) ∧ Below w.heap.size w w' := by
  have h := P a0 w0
  refine (label_inName.calls a0 true w h).mono ?_
  rintro e w' ⟨rfl, hd⟩
  exact ⟨rfl, hd.below⟩
end Go.Proofs.YtbcgailnhgknnaaGreatDoor.PLabelParse
end
section
namespace Go.Proofs.YtbcgailnhgknnaaGreatDoor.PLabelParse
open Go.Proofs.YtbcgailnhgknnaaGreatDoorU8 Go.RowKit Go.Proofs.YtbcgailnhgknnaaGreatDoorW.PrintWords Go.Proofs.YtbcgailnhgknnaaGreatDoorW.PrintLast Go.Proofs.YtbcgailnhgknnaaGreatDoorW.PrintMore
attribute [local go_sem] max2_int min2_int max_two min_two max_three min_three max_four min_four   -- for this text's walks alone
set_option linter.unusedVariables false
set_option linter.unusedSimpArgs false
theorem neq_func_nil {P : Program} {t : TypeId} {a b c} (hu : P.underlying t = some (.func a b c)) (f : Fn) (x y : Array Value) (w : World) : (binOp .neq t (.func f x y) .nilFunc).run P w = .ok (.bool true) w := by
  have h : ∀ d : Nat, (Op.equalIn (d + 1) t (.func f x y) .nilFunc).run P w = .ok false w := fun d => by
    simp [Op.equalIn, run_underlying hu]
  simp only [binOp]
  simp [Op.equal, Op.maxDepth, h 9999]
set_option maxHeartbeats 1000000 in
set_option maxRecDepth 100000 in
theorem chars_All.own (s : ByteArray) (hs : s.size ≤ 9223372036854775807) (g : Nat) (p : Int → Bool) (w : World) (eg : ∀ args w, (callFunc g args).run Tryz.prog w = .ok (.enter g args) w)
    (hp : ∀ c W, 0 ≤ c → c ≤ 255 → Calls Tryz.prog g #[.int .u8 c] W fun e w' => e = .returned (.bool (p c)) ∧ Drawn0 W w') :
    Calls Tryz.prog 46 #[.string s, .func (.func g) #[] #[]] w fun e w' => e = .returned (.bool ((List.range s.size).all fun i => p (bt s (i : Int)))) ∧ Drawn0 w w' := by
  have hne := fun W => neq_func_nil Tryz.underlying75 (.func g) #[] #[] W
  go_enter Tryz.func46, Tryz.ntmps46
  go_wp2
  go_loopw [5] (fun at_ wr => ∃ i : Nat, i ≤ s.size ∧ at_ = .int .i64 i ∧ Aside0 (∀ j, j < i → p (bt s (j : Int)) = true) ∧ Drawn0 w wr) (fun at_ _ => s.size - (intOf at_).toNat)
  case atStart => exact ⟨0, Nat.zero_le _, rfl, ⟨fun j hj => absurd hj (Nat.not_lt_zero _)⟩, Drawn0.refl _⟩
  case round =>
    obtain ⟨i, hi, rfl, HA, ⟨n, rfl⟩⟩ := hrel
    by_cases hlt : i < s.size
    · have hx6 : ∀ hq : i < s.size, ((s[i]'hq).toNat : Int) = bt s (i : Int) := fun hq => bt_at s (i : Int) hq
      have hr := bt_range s (i : Int)
      generalize hc : bt s (i : Int) = c at *
      have HC := Aside0.mk hc
      clear hc
      have HP := Aside0.mk (fun W => hp c W hr.1 hr.2)
      cases hb : p c with
      | true =>
        rw [hb] at HP
        go_wp2_with (go_at_fn g; refine (HP.out _).mono ?_; rintro e w' ⟨rfl, ⟨n1, rfl⟩⟩)
        refine ⟨⟨i + 1, by omega, by go_num, ⟨fun j hj => ?_⟩, ⟨n + n1, rfl⟩⟩, by simp [intOf]; omega⟩
        rcases Nat.lt_succ_iff_lt_or_eq.1 hj with h' | rfl
        · exact HA.out j h'
        · rw [HC.out]; exact hb
      | false =>
        rw [hb] at HP
        go_wp2_with (go_at_fn g; refine (HP.out _).mono ?_; rintro e w' ⟨rfl, ⟨n1, rfl⟩⟩)
        go_ret
        refine ⟨?_, ⟨n + n1, rfl⟩⟩
        have : (List.range s.size).all (fun i => p (bt s (i : Int))) = false := by
          rw [List.all_eq_false]
          exact ⟨i, List.mem_range.2 hlt, by rw [HC.out, hb]; simp⟩
        rw [this]; rfl
    · have hie : i = s.size := by omega
      subst hie
      clear hlt hi
      go_wp2
      go_ret
      refine ⟨?_, ⟨n, rfl⟩⟩
      have : (List.range s.size).all (fun i => p (bt s (i : Int))) = true := by
        rw [List.all_eq_true]
        exact fun i hi => HA.out i (List.mem_range.1 hi)
      rw [this]; rfl
end Go.Proofs.YtbcgailnhgknnaaGreatDoor.PLabelParse
end
section
namespace Go.Proofs.YtbcgailnhgknnaaGreatDoor.PLabelParse
open Go.Proofs.YtbcgailnhgknnaaGreatDoorU8 Go.RowKit Go.Proofs.YtbcgailnhgknnaaGreatDoorW.PrintWords Go.Proofs.YtbcgailnhgknnaaGreatDoorW.PrintLast Go.Proofs.YtbcgailnhgknnaaGreatDoorW.PrintMore
attribute [local go_sem] max2_int min2_int max_two min_two max_three min_three max_four min_four   -- for this text's walks alone
set_option linter.unusedVariables false
set_option linter.unusedSimpArgs false
theorem label_inName.own (c : Int) (h0 : 0 ≤ c) (h1 : c ≤ 255) (W : World) : Calls Tryz.prog 47 #[.int .u8 c] W fun e w' => e = .returned (.bool (inNameB c)) ∧ Drawn0 W w' :=
  label_inName.calls c _ W (by
    unfold label_inName.f chars_Letter.f chars_great.f chars_Digit.f inNameB
    by_cases a1 : 65 ≤ c <;> by_cases a2 : c ≤ 90 <;> by_cases a3 : 97 ≤ c <;> by_cases a4 : c ≤ 122 <;> by_cases a5 : 48 ≤ c <;> by_cases a6 : c ≤ 57 <;> by_cases a7 : c = 95 <;> simp [*] <;> omega)
def label_Name.f (a0 : ByteArray) : Option Bool := if a0.size ≤ 9223372036854775807 then some (nameB a0) else none
set_option maxHeartbeats 1000000 in
set_option maxRecDepth 100000 in
theorem label_Name.calls (a0 : ByteArray) (r : Bool) (w : World) (h : label_Name.f a0 = some r) :
    Calls Tryz.prog 25 #[.string a0] w fun e w' => e = .returned (.bool r) ∧ Drawn0 w w' := by
  unfold label_Name.f at h
  split at h
  case isFalse => cases h
  rename_i hs
  have eg : ∀ args w, (callFunc 47 args).run Tryz.prog w = .ok (.enter 47 args) w := enters_of Tryz.func47 (by kernel_rfl) rfl
  have HALL := Aside0.mk (fun W => chars_All.own a0 hs 47 inNameB W eg (fun c W h0 h1 => label_inName.own c h0 h1 W))
  have H := Aside0.mk (Option.some.inj h)
  clear h eg
  go_enter Tryz.func25, Tryz.ntmps25
  by_cases hn : a0.toList = []
  · have hnb : (a0.toList != ([] : List UInt8)) = false := by simp [hn]
    go_wp2
    go_ret
    have h0 : a0.size = 0 := (ba_nil a0).1 hn
    have hr := H.out
    rw [show nameB a0 = false by simp [nameB, h0]] at hr
    subst hr
    exact ⟨rfl, Drawn0.refl _⟩
  · have hnb : (a0.toList != ([] : List UInt8)) = true := by simp [hn]
    have h0 : 0 < a0.size := Nat.pos_of_ne_zero fun h => hn ((ba_nil a0).2 h)
    have hx6 : ∀ hq : 0 < a0.size, ((a0[0]'hq).toNat : Int) = bt a0 0 := fun hq => bt_at a0 0 hq
    have HD := Aside0.mk (fun W => chars_Digit.calls (bt a0 0) (digitB (bt a0 0)) W (by unfold chars_Digit.f digitB; by_cases h : 48 ≤ bt a0 0 <;> simp [h]))
    have HR := H.out
    unfold nameB at HR
    generalize bt a0 0 = c at *
    cases hd : digitB c with
    | true =>
      rw [hd] at HD HR
      go_wp2_with (go_at_call 45; refine (HD.out _).mono ?_; rintro e w' ⟨rfl, ⟨n1, rfl⟩⟩)
      go_ret
      simp at HR
      subst HR
      exact ⟨rfl, ⟨n1, rfl⟩⟩
    | false =>
      rw [hd] at HD HR
      simp only [Bool.not_false, Bool.true_and, decide_eq_true h0] at HR
      have HR' := Aside0.mk HR
      clear HR
      generalize (List.range a0.size).all (fun i => inNameB (bt a0 (i : Int))) = b at *
      go_wp2_with (first | (go_at_call 45; refine (HD.out _).mono ?_; rintro e w' ⟨rfl, ⟨n1, rfl⟩⟩) | (go_at_call 46; refine (HALL.out _).mono ?_; rintro e w' ⟨rfl, ⟨n2, rfl⟩⟩))
      go_ret
      have hie : a0.toList.isEmpty = false := by cases h : a0.toList with
        | nil => exact absurd h hn
        | cons _ _ => rfl
      refine ⟨?_, ⟨_, rfl⟩⟩
      simp [hie]
      exact HR'.out
end Go.Proofs.YtbcgailnhgknnaaGreatDoor.PLabelParse
end
section
set_option linter.unusedVariables false
set_option linter.unusedSimpArgs false
namespace Go.Proofs.YtbcgailnhgknnaaGreatDoorU8
open Go.RowKit Go.Proofs.YtbcgailnhgknnaaGreatDoorW.PrintWords
open Go
def runF (p : Int → Bool) (s : ByteArray) : Nat → Nat → Nat
  | 0, i => i
  | n + 1, i => if i < s.size ∧ p (bt s (i : Int)) = true then runF p s n (i + 1) else i
def runTo (p : Int → Bool) (s : ByteArray) (i : Nat) : Nat := runF p s (s.size - i) i
theorem runTo_step (p : Int → Bool) (s : ByteArray) (i : Nat) (h : i < s.size) : runTo p s i = if p (bt s (i : Int)) = true then runTo p s (i + 1) else i := by
  unfold runTo
  obtain ⟨n, hn⟩ : ∃ n, s.size - i = n + 1 := ⟨s.size - i - 1, by omega⟩
  rw [hn, show s.size - (i + 1) = n by omega]
  simp [runF, h]
theorem runTo_end (p : Int → Bool) (s : ByteArray) : runTo p s s.size = s.size := by unfold runTo; simp [runF]
theorem runF_bd (p : Int → Bool) (s : ByteArray) : ∀ n i, i ≤ s.size → i ≤ runF p s n i ∧ runF p s n i ≤ s.size
  | 0, i, h => ⟨Nat.le_refl _, h⟩
  | n + 1, i, h => by
    simp only [runF]
    split
    · rename_i hc
      have := runF_bd p s n (i + 1) hc.1
      omega
    · exact ⟨Nat.le_refl _, h⟩
theorem runTo_bd (p : Int → Bool) (s : ByteArray) (i : Nat) (h : i ≤ s.size) : i ≤ runTo p s i ∧ runTo p s i ≤ s.size := runF_bd p s _ i h
def punct (c : Int) : Int := if c = 123 then 0 else if c = 125 then 1 else if c = 91 then 2 else if c = 93 then 3 else if c = 58 then 4 else if c = 44 then 5 else -1
theorem punctIx (n : Int) (h0 : 0 ≤ n) (h1 : n ≤ 255) : Lib.indexByte [123, 125, 91, 93, 58, 44] n.toNat.toUInt8 = punct n := by
  obtain ⟨m, rfl⟩ := Int.eq_ofNat_of_zero_le h0
  have hm : m < 256 := by omega
  have : ∀ k : Fin 256, Lib.indexByte [123, 125, 91, 93, 58, 44] ((k.val : Int)).toNat.toUInt8 = punct (k.val : Int) := by decide +kernel
  exact this ⟨m, hm⟩
def letterB (c : Int) : Bool := (decide (65 ≤ c) && decide (c ≤ 90)) || (decide (97 ≤ c) && decide (c ≤ 122))
def wordB (c : Int) : Bool := letterB c || digitB c
def numB (c : Int) : Bool := wordB c || decide (c = 43) || decide (c = 45) || decide (c = 46)
def blankB (c : Int) : Bool := decide (c = 10) || decide (c = 13) || decide (c = 32) || decide (c = 9)
structure Tok where
  kind : Int
  from_ : Int
  to_ : Int
  text : ByteArray
  n : Int
def Tok.none : Tok := ⟨0, 0, 0, ⟨#[]⟩, 0⟩
def Tok.val (t : Tok) : Value := .agg #[.int .i64 t.kind, .int .i64 t.from_, .int .i64 t.to_, .string t.text, .int .i64 t.n]
theorem bcell {W w1 : World} (hb : Below W.heap.size W w1) : (∀ b o, b < W.heap.size → w1.cell? ⟨b, o, none⟩ = W.cell? ⟨b, o, none⟩) ∧ (∀ b o, b < W.heap.size → w1.frozen? ⟨b, o, none⟩ = W.frozen? ⟨b, o, none⟩) :=
  ⟨fun b o h => hb.cell (p := ⟨b, o, none⟩) h, fun b o h => hb.frozen (p := ⟨b, o, none⟩) h⟩
theorem cell_set {w : World} {q : Addr} {v : Value} (h : w.cell? q = some v) {p : Addr} {x : Value} (hne : p ≠ q) : (w.setCell p x).cell? q = some v := by
  rw [World.cell?_setCell_other _ _ _ _ hne]; exact h
theorem cell_drewN {w : World} {q : Addr} {v : Value} (h : w.cell? q = some v) : ∀ n, (w.drewN n).cell? q = some v
  | 0 => h
  | n + 1 => cell_drewN h n
end Go.Proofs.YtbcgailnhgknnaaGreatDoorU8
end
