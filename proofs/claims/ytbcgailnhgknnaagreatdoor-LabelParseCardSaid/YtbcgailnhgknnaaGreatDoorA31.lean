/- Proved here: what functions on this claim's road compute, each as a contract over the seat's program. Conditions: each theorem's own premises. -/
import Derived.Test.YtbcgailnhgknnaaGreatDoorA01
import Derived.Test.YtbcgailnhgknnaaGreatDoorA26
import Derived.Test.YtbcgailnhgknnaaGreatDoorA28
import Derived.Test.YtbcgailnhgknnaaGreatDoorA29
import Derived.Test.YtbcgailnhgknnaaGreatDoorA30
section
namespace Go.Proofs.YtbcgailnhgknnaaGreatDoor.PLabelParse
open Go.Proofs.YtbcgailnhgknnaaGreatDoorU8 Go.RowKit Go.Proofs.YtbcgailnhgknnaaGreatDoorW.PrintWords Go.Proofs.YtbcgailnhgknnaaGreatDoorW.PrintLast Go.Proofs.YtbcgailnhgknnaaGreatDoorW.PrintMore
attribute [local go_sem] max2_int min2_int max_two min_two max_three min_three max_four min_four   -- for this text's walks alone
set_option linter.unusedVariables false
set_option linter.unusedSimpArgs false
def jtok_put.f (k : Nat) (r : Int) (at_ : Int) : Option (List Int × Int × Int) := (utf_Put.f k r).bind fun b => if b.2 = 0 then some (b.1, at_, 0) else some ([], at_, 3)
def jtok_coded.f (k : Nat) (s : ByteArray) (i : Nat) : Option (List Int × Int × Int) :=
  (jtok_four.f k s (i : Int)).bind fun q => if q.2 = false then some ([], (i : Int), 3) else
    if i + 4 ≤ s.size then (strings_HasPrefix.f (s.extract (i + 4) s.size) ⟨#[92, 117]⟩).bind fun p =>
      if p = true then (jtok_four.f k s ((i : Int) + 4 + 2)).bind fun q2 => (utf_Pair.f q.1 q2.1).bind fun p2 =>
        if q2.2 = true ∧ p2.2 = true then jtok_put.f k p2.1 ((i : Int) + 4 + 6) else jtok_put.f k q.1 ((i : Int) + 4)
      else jtok_put.f k q.1 ((i : Int) + 4) else none
set_option maxHeartbeats 2000000 in
set_option maxRecDepth 100000 in
theorem jtok_coded.own (k : Nat) (s : ByteArray) (i : Nat) (hs : s.size ≤ 1099511627776) (b : List Int) (tq en : Int) (w : World) (h : jtok_coded.f k s i = some (b, tq, en)) :
    Calls Tryz.prog 112 #[.string s, .int .i64 i] w fun ev w' => ∃ v0 v1, ev = .returned (.tuple #[v0, .int .i64 tq, v1]) ∧ Below w.heap.size w w' ∧ ((en = 0 ∧ v1 = .nilIface ∧ Kd.R (Kd.int .u8) 5 w' w.heap.size (fun _ => True) v0 b) ∨ (en ≠ 0 ∧ TroubleAt w' v1 en)) := by
  unfold jtok_coded.f at h
  obtain ⟨⟨r, ok⟩, h4, h⟩ := Option.bind_eq_some_iff.1 h
  have H4 := Aside0.mk (fun W => jtok_four.calls k s (i : Int) r ok W h4)
  clear h4
  simp only at h
  go_enter Tryz.func112, Tryz.ntmps112
  cases ok with
  | false =>
    simp only [if_true, Option.some.injEq, Prod.mk.injEq] at h
    obtain ⟨rfl, rfl, rfl⟩ := h
    have HW := Aside0.mk (fun W => jtok_wrong.own (i : Int) 3 W)
    go_wp2_with (first | (go_at_call 116; with_reducible refine (H4.out _).mono ?_; rintro e w' ⟨rfl, ⟨n1, rfl⟩⟩) | (go_at_call 83; with_reducible refine (HW.out _).mono ?_; rintro e w' ⟨v1, rfl, hT, hB⟩))
    go_ret3
    have hb1 := below_drewN (Below.refl w.heap.size w) n1
    exact ⟨_, _, rfl, hb1.trans (hB.mono hb1.size), Or.inr ⟨by decide, hT⟩⟩
  | true =>
    simp only [Bool.true_eq_false, if_false] at h
    split at h
    case isFalse => cases h
    rename_i h4s
    obtain ⟨p, hp, h⟩ := Option.bind_eq_some_iff.1 h
    have HP := Aside0.mk (fun W => strings_HasPrefix.calls _ _ p W hp)
    clear hp
    have q1 : (0 ≤ (i : Int) + 4) = True := eq_true (by omega)
    have q2 : ((i : Int) + 4 ≤ (s.size : Int)) = True := eq_true (by omega)
    cases p with
    | false =>
      simp only [Bool.false_eq_true, if_false] at h
      unfold jtok_put.f at h
      obtain ⟨⟨bs, er⟩, hu, h⟩ := Option.bind_eq_some_iff.1 h
      have HU := Aside0.mk (fun W => utf_Put.calls k r bs er W hu)
      clear hu
      by_cases her : er = 0
      · subst her
        simp only [if_true, Option.some.injEq, Prod.mk.injEq] at h
        obtain ⟨rfl, rfl, rfl⟩ := h
        go_wp2_with (first | (go_at_call 116; with_reducible refine (H4.out _).mono ?_; rintro e w' ⟨rfl, ⟨n1, rfl⟩⟩) | (go_at_call 117; with_reducible refine (HP.out _).mono ?_; rintro e w' ⟨rfl, ⟨n2, rfl⟩⟩) | (go_at_call 119; with_reducible refine (HU.out _).mono ?_; rintro e w' ⟨v0, rfl, hR, hB⟩))
        have hb1 := below_drewN (Below.refl w.heap.size w) (n1 + n2)
        rw [drewN_size] at hR
        go_ret3
        exact ⟨_, _, rfl, hb1.trans (hB.mono hb1.size), rfl, hR⟩
      · have her' : (er != 0) = true := by simp [her]
        simp only [if_neg her, Option.some.injEq, Prod.mk.injEq] at h
        obtain ⟨rfl, rfl, rfl⟩ := h
        have HW := Aside0.mk (fun W => jtok_wrong.own ((i : Int) + 4) 3 W)
        go_wp2_with (first | (go_at_call 116; with_reducible refine (H4.out _).mono ?_; rintro e w' ⟨rfl, ⟨n1, rfl⟩⟩) | (go_at_call 117; with_reducible refine (HP.out _).mono ?_; rintro e w' ⟨rfl, ⟨n2, rfl⟩⟩) | (go_at_call 119; with_reducible refine (HU.out _).mono ?_; rintro e w' ⟨v0, rfl, hR, hB⟩) | (go_at_call 83; with_reducible refine (HW.out _).mono ?_; rintro e w'' ⟨v1, rfl, hT, hB2⟩))
        have hb1 := below_drewN (Below.refl w.heap.size w) (n1 + n2)
        have hb2 := hb1.trans (hB.mono hb1.size)
        go_ret3
        exact ⟨_, _, rfl, hb2.trans (hB2.mono hb2.size), Or.inr ⟨by decide, hT⟩⟩
    | true =>
      simp only [if_true] at h
      obtain ⟨⟨r2, ok2⟩, h4b, h⟩ := Option.bind_eq_some_iff.1 h
      have H4b := Aside0.mk (fun W => jtok_four.calls k s ((i : Int) + 4 + 2) r2 ok2 W h4b)
      clear h4b
      obtain ⟨⟨p2, both⟩, hpa, h⟩ := Option.bind_eq_some_iff.1 h
      have HPA := Aside0.mk (fun W => utf_Pair.calls r r2 p2 both W hpa)
      clear hpa
      simp only at h
      cases ok2 with
      | false =>
        simp only [Bool.false_eq_true, false_and, if_false] at h
        unfold jtok_put.f at h
        obtain ⟨⟨bs, er⟩, hu, h⟩ := Option.bind_eq_some_iff.1 h
        have HU := Aside0.mk (fun W => utf_Put.calls k r bs er W hu)
        clear hu
        by_cases her : er = 0
        · subst her
          simp only [if_true, Option.some.injEq, Prod.mk.injEq] at h
          obtain ⟨rfl, rfl, rfl⟩ := h
          go_wp2_with (first | (go_at_call 116; with_reducible refine (H4.out _).mono ?_; rintro e w' ⟨rfl, ⟨n1, rfl⟩⟩) | (go_at_call 117; with_reducible refine (HP.out _).mono ?_; rintro e w' ⟨rfl, ⟨n2, rfl⟩⟩) | (go_at_call 116; with_reducible refine (H4b.out _).mono ?_; rintro e w' ⟨rfl, ⟨n3, rfl⟩⟩) | (go_at_call 118; with_reducible refine (HPA.out _).mono ?_; rintro e w' ⟨rfl, ⟨n4, rfl⟩⟩) | (go_at_call 119; with_reducible refine (HU.out _).mono ?_; rintro e w' ⟨v0, rfl, hR, hB⟩))
          have hb1 := below_drewN (Below.refl w.heap.size w) (n1 + n2 + n3 + n4)
          rw [drewN_size] at hR
          go_ret3
          exact ⟨_, _, rfl, hb1.trans (hB.mono hb1.size), rfl, hR⟩
        · have her' : (er != 0) = true := by simp [her]
          simp only [if_neg her, Option.some.injEq, Prod.mk.injEq] at h
          obtain ⟨rfl, rfl, rfl⟩ := h
          have HW := Aside0.mk (fun W => jtok_wrong.own ((i : Int) + 4) 3 W)
          go_wp2_with (first | (go_at_call 116; with_reducible refine (H4.out _).mono ?_; rintro e w' ⟨rfl, ⟨n1, rfl⟩⟩) | (go_at_call 117; with_reducible refine (HP.out _).mono ?_; rintro e w' ⟨rfl, ⟨n2, rfl⟩⟩) | (go_at_call 116; with_reducible refine (H4b.out _).mono ?_; rintro e w' ⟨rfl, ⟨n3, rfl⟩⟩) | (go_at_call 118; with_reducible refine (HPA.out _).mono ?_; rintro e w' ⟨rfl, ⟨n4, rfl⟩⟩) | (go_at_call 119; with_reducible refine (HU.out _).mono ?_; rintro e w' ⟨v0, rfl, hR, hB⟩) | (go_at_call 83; with_reducible refine (HW.out _).mono ?_; rintro e w'' ⟨v1, rfl, hT, hB2⟩))
          have hb1 := below_drewN (Below.refl w.heap.size w) (n1 + n2 + n3 + n4)
          have hb2 := hb1.trans (hB.mono hb1.size)
          go_ret3
          exact ⟨_, _, rfl, hb2.trans (hB2.mono hb2.size), Or.inr ⟨by decide, hT⟩⟩
      | true =>
        cases both with
        | false =>
          simp only [Bool.false_eq_true, and_false, if_false] at h
          unfold jtok_put.f at h
          obtain ⟨⟨bs, er⟩, hu, h⟩ := Option.bind_eq_some_iff.1 h
          have HU := Aside0.mk (fun W => utf_Put.calls k r bs er W hu)
          clear hu
          by_cases her : er = 0
          · subst her
            simp only [if_true, Option.some.injEq, Prod.mk.injEq] at h
            obtain ⟨rfl, rfl, rfl⟩ := h
            go_wp2_with (first | (go_at_call 116; with_reducible refine (H4.out _).mono ?_; rintro e w' ⟨rfl, ⟨n1, rfl⟩⟩) | (go_at_call 117; with_reducible refine (HP.out _).mono ?_; rintro e w' ⟨rfl, ⟨n2, rfl⟩⟩) | (go_at_call 116; with_reducible refine (H4b.out _).mono ?_; rintro e w' ⟨rfl, ⟨n3, rfl⟩⟩) | (go_at_call 118; with_reducible refine (HPA.out _).mono ?_; rintro e w' ⟨rfl, ⟨n4, rfl⟩⟩) | (go_at_call 119; with_reducible refine (HU.out _).mono ?_; rintro e w' ⟨v0, rfl, hR, hB⟩))
            have hb1 := below_drewN (Below.refl w.heap.size w) (n1 + n2 + n3 + n4)
            rw [drewN_size] at hR
            go_ret3
            exact ⟨_, _, rfl, hb1.trans (hB.mono hb1.size), rfl, hR⟩
          · have her' : (er != 0) = true := by simp [her]
            simp only [if_neg her, Option.some.injEq, Prod.mk.injEq] at h
            obtain ⟨rfl, rfl, rfl⟩ := h
            have HW := Aside0.mk (fun W => jtok_wrong.own ((i : Int) + 4) 3 W)
            go_wp2_with (first | (go_at_call 116; with_reducible refine (H4.out _).mono ?_; rintro e w' ⟨rfl, ⟨n1, rfl⟩⟩) | (go_at_call 117; with_reducible refine (HP.out _).mono ?_; rintro e w' ⟨rfl, ⟨n2, rfl⟩⟩) | (go_at_call 116; with_reducible refine (H4b.out _).mono ?_; rintro e w' ⟨rfl, ⟨n3, rfl⟩⟩) | (go_at_call 118; with_reducible refine (HPA.out _).mono ?_; rintro e w' ⟨rfl, ⟨n4, rfl⟩⟩) | (go_at_call 119; with_reducible refine (HU.out _).mono ?_; rintro e w' ⟨v0, rfl, hR, hB⟩) | (go_at_call 83; with_reducible refine (HW.out _).mono ?_; rintro e w'' ⟨v1, rfl, hT, hB2⟩))
            have hb1 := below_drewN (Below.refl w.heap.size w) (n1 + n2 + n3 + n4)
            have hb2 := hb1.trans (hB.mono hb1.size)
            go_ret3
            exact ⟨_, _, rfl, hb2.trans (hB2.mono hb2.size), Or.inr ⟨by decide, hT⟩⟩
        | true =>
          simp only [and_self, if_true] at h
          unfold jtok_put.f at h
          obtain ⟨⟨bs, er⟩, hu, h⟩ := Option.bind_eq_some_iff.1 h
          have HU := Aside0.mk (fun W => utf_Put.calls k p2 bs er W hu)
          clear hu
          by_cases her : er = 0
          · subst her
            simp only [if_true, Option.some.injEq, Prod.mk.injEq] at h
            obtain ⟨rfl, rfl, rfl⟩ := h
            go_wp2_with (first | (go_at_call 116; with_reducible refine (H4.out _).mono ?_; rintro e w' ⟨rfl, ⟨n1, rfl⟩⟩) | (go_at_call 117; with_reducible refine (HP.out _).mono ?_; rintro e w' ⟨rfl, ⟨n2, rfl⟩⟩) | (go_at_call 116; with_reducible refine (H4b.out _).mono ?_; rintro e w' ⟨rfl, ⟨n3, rfl⟩⟩) | (go_at_call 118; with_reducible refine (HPA.out _).mono ?_; rintro e w' ⟨rfl, ⟨n4, rfl⟩⟩) | (go_at_call 119; with_reducible refine (HU.out _).mono ?_; rintro e w' ⟨v0, rfl, hR, hB⟩))
            have hb1 := below_drewN (Below.refl w.heap.size w) (n1 + n2 + n3 + n4)
            rw [drewN_size] at hR
            go_ret3
            exact ⟨_, _, rfl, hb1.trans (hB.mono hb1.size), rfl, hR⟩
          · have her' : (er != 0) = true := by simp [her]
            simp only [if_neg her, Option.some.injEq, Prod.mk.injEq] at h
            obtain ⟨rfl, rfl, rfl⟩ := h
            have HW := Aside0.mk (fun W => jtok_wrong.own ((i : Int) + 4 + 6) 3 W)
            go_wp2_with (first | (go_at_call 116; with_reducible refine (H4.out _).mono ?_; rintro e w' ⟨rfl, ⟨n1, rfl⟩⟩) | (go_at_call 117; with_reducible refine (HP.out _).mono ?_; rintro e w' ⟨rfl, ⟨n2, rfl⟩⟩) | (go_at_call 116; with_reducible refine (H4b.out _).mono ?_; rintro e w' ⟨rfl, ⟨n3, rfl⟩⟩) | (go_at_call 118; with_reducible refine (HPA.out _).mono ?_; rintro e w' ⟨rfl, ⟨n4, rfl⟩⟩) | (go_at_call 119; with_reducible refine (HU.out _).mono ?_; rintro e w' ⟨v0, rfl, hR, hB⟩) | (go_at_call 83; with_reducible refine (HW.out _).mono ?_; rintro e w'' ⟨v1, rfl, hT, hB2⟩))
            have hb1 := below_drewN (Below.refl w.heap.size w) (n1 + n2 + n3 + n4)
            have hb2 := hb1.trans (hB.mono hb1.size)
            go_ret3
            exact ⟨_, _, rfl, hb2.trans (hB2.mono hb2.size), Or.inr ⟨by decide, hT⟩⟩
end Go.Proofs.YtbcgailnhgknnaaGreatDoor.PLabelParse
end
section
namespace Go.Proofs.YtbcgailnhgknnaaGreatDoor.PLabelParse
open Go.Proofs.YtbcgailnhgknnaaGreatDoorU8 Go.RowKit Go.Proofs.YtbcgailnhgknnaaGreatDoorW.PrintWords Go.Proofs.YtbcgailnhgknnaaGreatDoorW.PrintLast Go.Proofs.YtbcgailnhgknnaaGreatDoorW.PrintMore
attribute [local go_sem] max2_int min2_int max_two min_two max_three min_three max_four min_four   -- for this text's walks alone
set_option linter.unusedVariables false
set_option linter.unusedSimpArgs false
def escB (c : Int) : Option Int := if c = 98 then some 8 else if c = 102 then some 12 else if c = 110 then some 10 else if c = 114 then some 13 else if c = 116 then some 9 else if c = 34 then some 34 else if c = 92 then some 92 else if c = 47 then some 47 else none
def jtok_escaped.f (k : Nat) (s : ByteArray) (i : Nat) : Option (List Int × Int × Int) :=
  if i < s.size then (if bt s (i : Int) = 117 then jtok_coded.f k s (i + 1) else match escB (bt s (i : Int)) with | some x => some ([x], (i : Int) + 1, 0) | none => some ([], (i : Int), 3)) else some ([], (i : Int), 3)
theorem R_one (e : Nat) (W : World) (base : Nat) (hb : base ≤ W.heap.size) (c : Int) : (Kd.int .u8).R e (W.alloc (.cells #[.int .u8 c] e)) base (fun _ => True) (.slice (some ⟨W.heap.size, 0, none⟩) 1 1) [c] := by
  refine ⟨fun _ _ => trivial, [.int .u8 c], ?_, ⟨rfl, fun j p hj => ?_⟩⟩
  · exact World.ownsRow_lit (base := base) (e := e) (size := 1) W #[.int .u8 c] 1 hb (by simp [maxLen]) rfl
  · match j, hj with
    | 0, hj =>
      simp at hj
      subst hj
      rfl
    | j + 1, hj => simp at hj
set_option maxHeartbeats 2000000 in
set_option maxRecDepth 100000 in
theorem jtok_escaped.own (k : Nat) (s : ByteArray) (i : Nat) (hs : s.size ≤ 1099511627776) (b : List Int) (tq en : Int) (w : World) (h : jtok_escaped.f k s i = some (b, tq, en)) :
    Calls Tryz.prog 104 #[.string s, .int .i64 i] w fun ev w' => ∃ v0 v1, ev = .returned (.tuple #[v0, .int .i64 tq, v1]) ∧ Below w.heap.size w w' ∧ ((en = 0 ∧ v1 = .nilIface ∧ Kd.R (Kd.int .u8) 5 w' w.heap.size (fun _ => True) v0 b) ∨ (en ≠ 0 ∧ TroubleAt w' v1 en)) := by
  unfold jtok_escaped.f at h
  have HW := Aside0.mk (fun W => jtok_wrong.own (i : Int) 3 W)
  by_cases hi : i < s.size
  · rw [if_pos hi] at h
    have hx6 : ∀ hq : i < s.size, ((s[i]'hq).toNat : Int) = bt s (i : Int) := fun hq => bt_at s (i : Int) hq
    generalize bt s (i : Int) = c at *
    by_cases c117 : c = 117
    · subst c117
      simp only [if_true] at h
      have HC := Aside0.mk (fun W => jtok_coded.own k s (i + 1) hs b tq en W h)
      clear h
      go_enter Tryz.func104, Tryz.ntmps104
      go_wp2_with (go_at_call 112; refine (HC.out _).mono ?_; rintro e w' ⟨v0, v1, rfl, hB, hor⟩)
      go_ret3
      exact ⟨_, _, rfl, hB, hor⟩
    · rw [if_neg c117] at h
      by_cases c98 : c = 98
      · subst c98
        simp [escB] at h
        obtain ⟨rfl, rfl, rfl⟩ := h
        go_enter Tryz.func104, Tryz.ntmps104
        go_wp2
        go_ret3
        exact ⟨_, _, rfl, (Below.refl _ w).alloc (Nat.le_refl _) _, Or.inl ⟨by trivial, by trivial, R_one _ w _ (Nat.le_refl _) 8⟩⟩
      by_cases c102 : c = 102
      · subst c102
        simp [escB] at h
        obtain ⟨rfl, rfl, rfl⟩ := h
        go_enter Tryz.func104, Tryz.ntmps104
        go_wp2
        go_ret3
        exact ⟨_, _, rfl, (Below.refl _ w).alloc (Nat.le_refl _) _, Or.inl ⟨by trivial, by trivial, R_one _ w _ (Nat.le_refl _) 12⟩⟩
      by_cases c110 : c = 110
      · subst c110
        simp [escB] at h
        obtain ⟨rfl, rfl, rfl⟩ := h
        go_enter Tryz.func104, Tryz.ntmps104
        go_wp2
        go_ret3
        exact ⟨_, _, rfl, (Below.refl _ w).alloc (Nat.le_refl _) _, Or.inl ⟨by trivial, by trivial, R_one _ w _ (Nat.le_refl _) 10⟩⟩
      by_cases c114 : c = 114
      · subst c114
        simp [escB] at h
        obtain ⟨rfl, rfl, rfl⟩ := h
        go_enter Tryz.func104, Tryz.ntmps104
        go_wp2
        go_ret3
        exact ⟨_, _, rfl, (Below.refl _ w).alloc (Nat.le_refl _) _, Or.inl ⟨by trivial, by trivial, R_one _ w _ (Nat.le_refl _) 13⟩⟩
      by_cases c116 : c = 116
      · subst c116
        simp [escB] at h
        obtain ⟨rfl, rfl, rfl⟩ := h
        go_enter Tryz.func104, Tryz.ntmps104
        go_wp2
        go_ret3
        exact ⟨_, _, rfl, (Below.refl _ w).alloc (Nat.le_refl _) _, Or.inl ⟨by trivial, by trivial, R_one _ w _ (Nat.le_refl _) 9⟩⟩
      by_cases c34 : c = 34
      · subst c34
        simp [escB] at h
        obtain ⟨rfl, rfl, rfl⟩ := h
        go_enter Tryz.func104, Tryz.ntmps104
        go_wp2
        go_ret3
        exact ⟨_, _, rfl, (Below.refl _ w).alloc (Nat.le_refl _) _, Or.inl ⟨by trivial, by trivial, R_one _ w _ (Nat.le_refl _) 34⟩⟩
      by_cases c92 : c = 92
      · subst c92
        simp [escB] at h
        obtain ⟨rfl, rfl, rfl⟩ := h
        go_enter Tryz.func104, Tryz.ntmps104
        go_wp2
        go_ret3
        exact ⟨_, _, rfl, (Below.refl _ w).alloc (Nat.le_refl _) _, Or.inl ⟨by trivial, by trivial, R_one _ w _ (Nat.le_refl _) 92⟩⟩
      by_cases c47 : c = 47
      · subst c47
        simp [escB] at h
        obtain ⟨rfl, rfl, rfl⟩ := h
        go_enter Tryz.func104, Tryz.ntmps104
        go_wp2
        go_ret3
        exact ⟨_, _, rfl, (Below.refl _ w).alloc (Nat.le_refl _) _, Or.inl ⟨by trivial, by trivial, R_one _ w _ (Nat.le_refl _) 47⟩⟩
      simp [escB, c98, c102, c110, c114, c116, c34, c92, c47] at h
      obtain ⟨rfl, rfl, rfl⟩ := h
      have d98 : (c == 98) = false := beq_eq_false_iff_ne.2 c98
      have d102 : (c == 102) = false := beq_eq_false_iff_ne.2 c102
      have d110 : (c == 110) = false := beq_eq_false_iff_ne.2 c110
      have d114 : (c == 114) = false := beq_eq_false_iff_ne.2 c114
      have d116 : (c == 116) = false := beq_eq_false_iff_ne.2 c116
      have d34 : (c == 34) = false := beq_eq_false_iff_ne.2 c34
      have d92 : (c == 92) = false := beq_eq_false_iff_ne.2 c92
      have d47 : (c == 47) = false := beq_eq_false_iff_ne.2 c47
      have d117 : (c == 117) = false := beq_eq_false_iff_ne.2 c117
      go_enter Tryz.func104, Tryz.ntmps104
      go_wp2_with (go_at_call 83; with_reducible refine (HW.out _).mono ?_; rintro e w'' ⟨v1, rfl, hT, hB2⟩)
      go_ret3
      exact ⟨_, _, rfl, hB2, Or.inr ⟨by decide, hT⟩⟩
  · rw [if_neg hi, Option.some.injEq, Prod.mk.injEq, Prod.mk.injEq] at h
    obtain ⟨rfl, rfl, rfl⟩ := h
    have hge : (s.size : Int) ≤ (i : Int) := by omega
    go_enter Tryz.func104, Tryz.ntmps104
    go_wp2_with (go_at_call 83; with_reducible refine (HW.out _).mono ?_; rintro e w'' ⟨v1, rfl, hT, hB2⟩)
    go_ret3
    exact ⟨_, _, rfl, hB2, Or.inr ⟨by decide, hT⟩⟩
end Go.Proofs.YtbcgailnhgknnaaGreatDoor.PLabelParse
end
