/- Proved here: what functions on this claim's road compute, each as a contract over the seat's program. Conditions: each theorem's own premises. -/
import Derived.Shelf.Abstract
import Derived.Test.YtbcgailnhgknnaaGreatDoorA10
import Derived.Test.YtbcgailnhgknnaaGreatDoorA16
import Derived.Test.YtbcgailnhgknnaaGreatDoorA01
import Derived.Test.YtbcgailnhgknnaaGreatDoorA26
import Derived.Test.YtbcgailnhgknnaaGreatDoorA32
import Derived.Test.YtbcgailnhgknnaaGreatDoorA33
import Derived.Test.YtbcgailnhgknnaaGreatDoorA34
namespace Go.Proofs.YtbcgailnhgknnaaGreatDoor.PLabelParse
open Go.Proofs.YtbcgailnhgknnaaGreatDoorU8 Go.RowKit Go.Proofs.YtbcgailnhgknnaaGreatDoorW.PrintWords Go.Proofs.YtbcgailnhgknnaaGreatDoorW.PrintLast Go.Proofs.YtbcgailnhgknnaaGreatDoorW.PrintMore
attribute [local go_sem] max2_int min2_int max_two min_two max_three min_three max_four min_four   -- for this text's walks alone
set_option linter.unusedVariables false
set_option linter.unusedSimpArgs false
def jtok_token.f (k : Nat) (s : ByteArray) (i : Nat) : Option (Tok × Int) :=
  if 0 ≤ punct (bt s (i : Int)) then some (⟨punct (bt s (i : Int)) + 1, i, i + 1, ⟨#[]⟩, 0⟩, 0)
  else if bt s (i : Int) = 34 then (jtok_text.l k k s (i + 1) []).bind fun q => if q.2.2 = 0 then some (⟨7, i, q.2.1, q.1, 0⟩, 0) else some (Tok.none, q.2.2)
  else if digitB (bt s (i : Int)) = true ∨ bt s (i : Int) = 45 then (num_Parse.f k (s.extract i (runTo numB s i))).bind fun q => if q.2 = 0 then some (⟨8, i, (runTo numB s i : Nat), ⟨#[]⟩, q.1⟩, 0) else some (Tok.none, q.2)
  else (jtok_word.f (s.extract i (runTo wordB s i))).bind fun kd => if kd = 0 then some (Tok.none, 3) else some (⟨kd, i, (runTo wordB s i : Nat), ⟨#[]⟩, 0⟩, 0)
theorem jtok_wordy.own (c : Int) (h0 : 0 ≤ c) (h1 : c ≤ 255) (W : World) : Calls Tryz.prog 84 #[.int .u8 c] W fun e w' => e = .returned (.bool (wordB c)) ∧ Drawn0 W w' :=
  jtok_wordy.calls c _ W (by
    unfold jtok_wordy.f chars_Letter.f chars_great.f chars_Digit.f wordB letterB digitB
    by_cases a1 : 65 ≤ c <;> by_cases a2 : c ≤ 90 <;> by_cases a3 : 97 ≤ c <;> by_cases a4 : c ≤ 122 <;> by_cases a5 : 48 ≤ c <;> by_cases a6 : c ≤ 57 <;> simp [*] <;> omega)
theorem jtok_numeric.own (c : Int) (h0 : 0 ≤ c) (h1 : c ≤ 255) (W : World) : Calls Tryz.prog 81 #[.int .u8 c] W fun e w' => e = .returned (.bool (numB c)) ∧ Drawn0 W w' :=
  jtok_numeric.calls c _ W (by
    unfold jtok_numeric.f jtok_wordy.f chars_Letter.f chars_great.f chars_Digit.f numB wordB letterB digitB
    by_cases a1 : 65 ≤ c <;> by_cases a2 : c ≤ 90 <;> by_cases a3 : 97 ≤ c <;> by_cases a4 : c ≤ 122 <;> by_cases a5 : 48 ≤ c <;> by_cases a6 : c ≤ 57 <;> by_cases a7 : c = 43 <;> by_cases a8 : c = 45 <;> by_cases a9 : c = 46 <;> simp [*] <;> omega)
theorem TroubleAt.set {w : World} {v : Value} {n : Int} (h : TroubleAt w v n) {b o : Nat} {m : Int} (hb : w.cell? ⟨b, 1, none⟩ = some (.int .i64 m)) (x : Value) (hx : o = 1 → ∃ q, x = .int .i64 q) :
    TroubleAt (w.setCell ⟨b, o, none⟩ x) v n ∧ ∃ q, (w.setCell ⟨b, o, none⟩ x).cell? ⟨b, 1, none⟩ = some (.int .i64 q) := by
  obtain ⟨g, a, hv, h0, h1⟩ := h
  have hg : b ≠ g := fun e => by subst e; rw [hb] at h1; cases h1
  refine ⟨⟨g, a, hv, ?_, ?_⟩, ?_⟩
  · rw [World.cell?_setCell_other _ _ _ _ (by simp [hg])]; exact h0
  · rw [World.cell?_setCell_other _ _ _ _ (by simp [hg])]; exact h1
  · by_cases ho : o = 1
    · subst ho
      obtain ⟨q, rfl⟩ := hx rfl
      exact ⟨q, World.cell?_setCell_same _ _ _ hb⟩
    · exact ⟨m, by rw [World.cell?_setCell_other _ _ _ _ (by simp [ho])]; exact hb⟩
theorem TroubleAt.set5 {w : World} {v : Value} {n : Int} (h : TroubleAt w v n) {b : Nat} {m : Int} (hb : w.cell? ⟨b, 1, none⟩ = some (.int .i64 m)) (x0 x2 x3 x4 : Value) (m1 : Int) :
    TroubleAt (((((w.setCell ⟨b, 0, none⟩ x0).setCell ⟨b, 1, none⟩ (.int .i64 m1)).setCell ⟨b, 2, none⟩ x2).setCell ⟨b, 3, none⟩ x3).setCell ⟨b, 4, none⟩ x4) v n := by
  obtain ⟨h, q, hb⟩ := h.set hb x0 (o := 0) (by omega)
  obtain ⟨h, q, hb⟩ := h.set hb (.int .i64 m1) (o := 1) (fun _ => ⟨m1, rfl⟩)
  obtain ⟨h, q, hb⟩ := h.set hb x2 (o := 2) (by omega)
  obtain ⟨h, q, hb⟩ := h.set hb x3 (o := 3) (by omega)
  exact (h.set hb x4 (o := 4) (by omega)).1
set_option maxHeartbeats 2000000 in
set_option maxRecDepth 100000 in
theorem jtok_token.own (k : Nat) (s : ByteArray) (i : Nat) (hs : s.size ≤ 1099511627776) (hi : i < s.size) (t : Tok) (en : Int) (w : World) (h : jtok_token.f k s i = some (t, en)) :
    Calls Tryz.prog 60 #[.string s, .int .i64 i] w fun ev w' => ∃ v1, ev = .returned (.tuple #[t.val, v1]) ∧ Below w.heap.size w w' ∧ ((en = 0 ∧ v1 = .nilIface) ∨ (en ≠ 0 ∧ TroubleAt w' v1 en)) := by
  have eg1 : ∀ args w, (callFunc 84 args).run Tryz.prog w = .ok (.enter 84 args) w := enters_of Tryz.func84 (by kernel_rfl) rfl
  have eg2 : ∀ args w, (callFunc 81 args).run Tryz.prog w = .ok (.enter 81 args) w := enters_of Tryz.func81 (by kernel_rfl) rfl
  have HR1 := Aside0.mk (fun W => jtok_run.own s (by omega) i (by omega) 84 wordB W eg1 (fun c W h0 h1 => jtok_wordy.own c h0 h1 W))
  have HR2 := Aside0.mk (fun W => jtok_run.own s (by omega) i (by omega) 81 numB W eg2 (fun c W h0 h1 => jtok_numeric.own c h0 h1 W))
  clear eg1 eg2
  have hx : ∀ hq : i < s.size, ((s[i]'hq).toNat : Int) = bt s (i : Int) := fun hq => bt_at s (i : Int) hq
  have hr := bt_range s (i : Int)
  unfold jtok_token.f at h
  generalize bt s (i : Int) = c at *
  have hib : ∀ wx : World, Calls Tryz.prog 53 #[.string (⟨#[123, 125, 91, 93, 58, 44]⟩ : ByteArray), .int .u8 c] wx fun e w' => e = .returned (.int .i64 (punct c)) ∧ w' = wx := fun wx => by
    rw [← punctIx c hr.1 hr.2]
    exact Tryz.strings_IndexByte (⟨#[123, 125, 91, 93, 58, 44]⟩ : ByteArray) c wx
  have HIB := Aside0.mk hib
  clear hib
  by_cases hp : 0 ≤ punct c
  · rw [if_pos hp, Option.some.injEq, Prod.mk.injEq] at h
    obtain ⟨rfl, rfl⟩ := h
    have hpd : decide (0 ≤ punct c) = true := decide_eq_true hp
    have hp6 : punct c ≤ 5 := by unfold punct; repeat' split; all_goals omega
    clear HR1 HR2
    generalize punct c = pc at *
    go_enter Tryz.func60, Tryz.ntmps60
    go_wp2_with (go_at_call 53; (with_reducible refine (HIB.out _).mono ?_); rintro e w' ⟨rfl, rfl⟩)
    refine bodyPost_ret (v := .tuple #[Tok.val ⟨pc + 1, i, i + 1, ⟨#[]⟩, 0⟩, .nilIface]) (by simp [results, Tryz.results60, go_sem, Tok.val]; omega) rfl ⟨_, rfl, ?_, Or.inl ⟨trivial, rfl⟩⟩
    exact ((Below.refl _ w).alloc (Nat.le_refl _) _).alloc (by simp) _
  · rw [if_neg hp] at h
    have hpd : decide (0 ≤ punct c) = false := decide_eq_false hp
    clear hp
    generalize punct c = pc at *
    by_cases c34 : c = 34
    · subst c34
      rw [if_pos rfl] at h
      clear HR1 HR2
      obtain ⟨⟨r, tq, e0⟩, ht, h⟩ := Option.bind_eq_some_iff.1 h
      have ht' : ∀ W, Calls Tryz.prog 80 #[.string s, .int .i64 ((i : Int) + 1)] W fun ev w' => ∃ v1, ev = .returned (.tuple #[.string r, .int .i64 tq, v1]) ∧ Below W.heap.size W w' ∧ ((e0 = 0 ∧ v1 = .nilIface) ∨ (e0 ≠ 0 ∧ TroubleAt w' v1 e0)) := fun W => jtok_text.own k k s (i + 1) hs hi r tq e0 W ht
      have HT := Aside0.mk ht'
      clear ht ht'
      simp only at h
      by_cases he : e0 = 0
      · subst he
        rw [if_pos rfl, Option.some.injEq, Prod.mk.injEq] at h
        obtain ⟨rfl, rfl⟩ := h
        go_enter Tryz.func60, Tryz.ntmps60
        go_wp2_with (first | (go_at_call 53; (with_reducible refine (HIB.out _).mono ?_); rintro e w' ⟨rfl, rfl⟩) | (go_at_call 80; (with_reducible refine (HT.out _).mono ?_); rintro e w' ⟨v1, rfl, hB, hor⟩; obtain ⟨hc, hf⟩ := bcell hB; obtain rfl : v1 = .nilIface := (by rcases hor with h | h; exact h.2; exact absurd rfl h.1); have hz : w.heap.size + 1 < w'.heap.size := (by have := hB.size; simp at this; omega); clear hor))
        have z0 : w'.cell? ⟨w.heap.size, 0, none⟩ = some (.int .i64 0) := (hc _ _ (by simp; omega)).trans (cell_alloc (by simp) _)
        have z1 : w'.cell? ⟨w.heap.size, 1, none⟩ = some (.int .i64 0) := (hc _ _ (by simp; omega)).trans (cell_alloc (by simp) _)
        have z2 : w'.cell? ⟨w.heap.size, 2, none⟩ = some (.int .i64 0) := (hc _ _ (by simp; omega)).trans (cell_alloc (by simp) _)
        have z3 : w'.cell? ⟨w.heap.size, 3, none⟩ = some (.string ⟨#[]⟩) := (hc _ _ (by simp; omega)).trans (cell_alloc (by simp) _)
        have z4 : w'.cell? ⟨w.heap.size, 4, none⟩ = some (.int .i64 0) := (hc _ _ (by simp; omega)).trans (cell_alloc (by simp) _)
        have hb0 := (((Below.refl w.heap.size w).alloc (Nat.le_refl _) _).alloc (by simp) _).trans (hB.mono (by simp; omega))
        refine bodyPost_ret (v := .tuple #[Tok.val ⟨7, i, tq, r, 0⟩, .nilIface]) (by simp [results, Tryz.results60, go_sem, Tok.val, z0, z1, z2, z3, z4, hz]) rfl ⟨_, rfl, ?_, Or.inl ⟨trivial, rfl⟩⟩
        exact (by (repeat (with_reducible refine Below.setCell ?_ (by simp) _)); exact hb0)
      · rw [if_neg he, Option.some.injEq, Prod.mk.injEq] at h
        obtain ⟨rfl, rfl⟩ := h
        go_enter Tryz.func60, Tryz.ntmps60
        go_wp2_with (first | (go_at_call 53; (with_reducible refine (HIB.out _).mono ?_); rintro e w' ⟨rfl, rfl⟩) | (go_at_call 80; (with_reducible refine (HT.out _).mono ?_); rintro e w' ⟨v1, rfl, hB, hor⟩; obtain ⟨hc, hf⟩ := bcell hB; have hT := (hor.resolve_left (fun hh => he hh.1)).2; have hT' := hT; unfold TroubleAt at hT'; obtain ⟨g, ga, hv, hg0, hg1⟩ := hT'; subst hv; have hz : w.heap.size + 1 < w'.heap.size := (by have := hB.size; simp at this; omega); clear hor))
        have z0 : w'.cell? ⟨w.heap.size, 0, none⟩ = some (.int .i64 0) := (hc _ _ (by simp; omega)).trans (cell_alloc (by simp) _)
        have z1 : w'.cell? ⟨w.heap.size, 1, none⟩ = some (.int .i64 0) := (hc _ _ (by simp; omega)).trans (cell_alloc (by simp) _)
        have z2 : w'.cell? ⟨w.heap.size, 2, none⟩ = some (.int .i64 0) := (hc _ _ (by simp; omega)).trans (cell_alloc (by simp) _)
        have z3 : w'.cell? ⟨w.heap.size, 3, none⟩ = some (.string ⟨#[]⟩) := (hc _ _ (by simp; omega)).trans (cell_alloc (by simp) _)
        have z4 : w'.cell? ⟨w.heap.size, 4, none⟩ = some (.int .i64 0) := (hc _ _ (by simp; omega)).trans (cell_alloc (by simp) _)
        have hb0 := (((Below.refl w.heap.size w).alloc (Nat.le_refl _) _).alloc (by simp) _).trans (hB.mono (by simp; omega))
        refine bodyPost_ret (v := .tuple #[Tok.val Tok.none, .iface 136 (.pointer (some ⟨g, 0, none⟩))]) (by simp [results, Tryz.results60, go_sem, Tok.val, Tok.none, z0, z1, z2, z3, z4, hz]) rfl ⟨_, rfl, ?_, Or.inr ⟨he, ?_⟩⟩
        · exact (by (repeat (with_reducible refine Below.setCell ?_ (by simp) _)); exact hb0)
        · exact hT.set5 z1 _ _ _ _ _
    · rw [if_neg c34] at h
      have c34b : (c == 34) = false := beq_eq_false_iff_ne.2 c34
      clear c34
      have HDG := Aside0.mk (fun W => num_digit.own c hr.1 hr.2 W)
      cases hdg : digitB c with
      | true =>
        rw [hdg] at HDG
        rw [if_pos (Or.inl hdg)] at h
        clear hdg
        have hbd := runTo_bd numB s i (Nat.le_of_lt hi)
        generalize runTo numB s i = j at *
        obtain ⟨⟨v, e0⟩, hpa, h⟩ := Option.bind_eq_some_iff.1 h
        have HPA := Aside0.mk (fun W => num_Parse.calls k _ v e0 W hpa)
        have q1 : ((i : Int) ≤ (j : Int)) = True := eq_true (by omega)
        have q2 : ((j : Int) ≤ (s.size : Int)) = True := eq_true (by omega)
        clear hpa HR1 hbd
        simp only at h
        by_cases he : e0 = 0
        · subst he
          rw [if_pos rfl, Option.some.injEq, Prod.mk.injEq] at h
          obtain ⟨rfl, rfl⟩ := h
          go_enter Tryz.func60, Tryz.ntmps60
          go_wp2_with (first | (go_at_call 53; (with_reducible refine (HIB.out _).mono ?_); rintro e w' ⟨rfl, rfl⟩) | (go_at_call 45; (with_reducible refine (HDG.out _).mono ?_); rintro e w' ⟨rfl, ⟨n1, rfl⟩⟩) | (go_at_call 58; (with_reducible refine (HR2.out _).mono ?_); rintro e w' ⟨rfl, ⟨n2, rfl⟩⟩) | (go_at_call 82; (with_reducible refine (HPA.out _).mono ?_); rintro e w' ⟨rfl, ⟨n3, rfl⟩⟩))
          refine bodyPost_ret (v := .tuple #[Tok.val ⟨8, i, j, ⟨#[]⟩, v⟩, .nilIface]) (by simp [results, Tryz.results60, go_sem, Tok.val]) rfl ⟨_, rfl, ?_, Or.inl ⟨trivial, rfl⟩⟩
          exact (by (repeat (with_reducible first | refine Below.setCell ?_ (by simp) _ | refine below_drewN ?_ _ | refine Below.alloc ?_ (by simp) _)); exact Below.refl _ _)
        · have heb : (e0 != 0) = true := by simp [he]
          rw [if_neg he, Option.some.injEq, Prod.mk.injEq] at h
          obtain ⟨rfl, rfl⟩ := h
          have HWR := Aside0.mk (fun W => jtok_wrong.own (i : Int) e0 W)
          go_enter Tryz.func60, Tryz.ntmps60
          go_wp2_with (first | (go_at_call 53; (with_reducible refine (HIB.out _).mono ?_); rintro e w' ⟨rfl, rfl⟩) | (go_at_call 45; (with_reducible refine (HDG.out _).mono ?_); rintro e w' ⟨rfl, ⟨n1, rfl⟩⟩) | (go_at_call 58; (with_reducible refine (HR2.out _).mono ?_); rintro e w' ⟨rfl, ⟨n2, rfl⟩⟩) | (go_at_call 82; (with_reducible refine (HPA.out _).mono ?_); rintro e w' ⟨rfl, ⟨n3, rfl⟩⟩) | (go_at_call 83; (with_reducible refine (HWR.out _).mono ?_); rintro e w' ⟨v1, rfl, hT, hB⟩; have hT' := hT; unfold TroubleAt at hT'; obtain ⟨g, ga, hv, hg0, hg1⟩ := hT'; subst hv; obtain ⟨hc, hf⟩ := bcell hB; have hz : w.heap.size + 1 < w'.heap.size := (by have := hB.size; simp at this; omega)))
          have zz : w'.cell? ⟨w.heap.size, 1, none⟩ = some (.int .i64 0) := (hc _ _ (by simp [drewN_size]; try omega)).trans (by repeat (first | (simp; done) | (with_reducible refine cell_set ?_ (by simp)) | (with_reducible refine cell_drewN ?_ _) | (with_reducible refine cell_alloc ?_ _)))
          have z0 : w'.cell? ⟨w.heap.size, 0, none⟩ = some (.int .i64 0) := (hc _ _ (by simp [drewN_size]; try omega)).trans (by repeat (first | (simp; done) | (with_reducible refine cell_set ?_ (by simp)) | (with_reducible refine cell_drewN ?_ _) | (with_reducible refine cell_alloc ?_ _)))
          have z1 := zz
          have z2 : w'.cell? ⟨w.heap.size, 2, none⟩ = some (.int .i64 0) := (hc _ _ (by simp [drewN_size]; try omega)).trans (by repeat (first | (simp; done) | (with_reducible refine cell_set ?_ (by simp)) | (with_reducible refine cell_drewN ?_ _) | (with_reducible refine cell_alloc ?_ _)))
          have z3 : w'.cell? ⟨w.heap.size, 3, none⟩ = some (.string ⟨#[]⟩) := (hc _ _ (by simp [drewN_size]; try omega)).trans (by repeat (first | (simp; done) | (with_reducible refine cell_set ?_ (by simp)) | (with_reducible refine cell_drewN ?_ _) | (with_reducible refine cell_alloc ?_ _)))
          have z4 : w'.cell? ⟨w.heap.size, 4, none⟩ = some (.int .i64 0) := (hc _ _ (by simp [drewN_size]; try omega)).trans (by repeat (first | (simp; done) | (with_reducible refine cell_set ?_ (by simp)) | (with_reducible refine cell_drewN ?_ _) | (with_reducible refine cell_alloc ?_ _)))
          have hb0 : Below w.heap.size w w' := Below.trans (by (repeat (with_reducible first | refine Below.setCell ?_ (by simp) _ | refine below_drewN ?_ _ | refine Below.alloc ?_ (by simp) _)); exact Below.refl _ _) (hB.mono (by simp [drewN_size]; try omega))
          refine bodyPost_ret (v := .tuple #[Tok.val Tok.none, .iface 136 (.pointer (some ⟨g, 0, none⟩))]) (by simp [results, Tryz.results60, go_sem, Tok.val, Tok.none, z0, z1, z2, z3, z4, hz]) rfl ⟨_, rfl, ?_, Or.inr ⟨by first | decide | exact he, ?_⟩⟩
          · exact (by (repeat (with_reducible refine Below.setCell ?_ (by simp) _)); exact hb0)
          · exact hT.set5 z1 _ _ _ _ _
      | false =>
        rw [hdg] at HDG
        by_cases c45 : c = 45
        · rw [if_pos (Or.inr c45)] at h
          subst c45
          clear hdg
          have hbd := runTo_bd numB s i (Nat.le_of_lt hi)
          generalize runTo numB s i = j at *
          obtain ⟨⟨v, e0⟩, hpa, h⟩ := Option.bind_eq_some_iff.1 h
          have HPA := Aside0.mk (fun W => num_Parse.calls k _ v e0 W hpa)
          have q1 : ((i : Int) ≤ (j : Int)) = True := eq_true (by omega)
          have q2 : ((j : Int) ≤ (s.size : Int)) = True := eq_true (by omega)
          clear hpa HR1 hbd
          simp only at h
          by_cases he : e0 = 0
          · subst he
            rw [if_pos rfl, Option.some.injEq, Prod.mk.injEq] at h
            obtain ⟨rfl, rfl⟩ := h
            go_enter Tryz.func60, Tryz.ntmps60
            go_wp2_with (first | (go_at_call 53; (with_reducible refine (HIB.out _).mono ?_); rintro e w' ⟨rfl, rfl⟩) | (go_at_call 45; (with_reducible refine (HDG.out _).mono ?_); rintro e w' ⟨rfl, ⟨n1, rfl⟩⟩) | (go_at_call 58; (with_reducible refine (HR2.out _).mono ?_); rintro e w' ⟨rfl, ⟨n2, rfl⟩⟩) | (go_at_call 82; (with_reducible refine (HPA.out _).mono ?_); rintro e w' ⟨rfl, ⟨n3, rfl⟩⟩))
            refine bodyPost_ret (v := .tuple #[Tok.val ⟨8, i, j, ⟨#[]⟩, v⟩, .nilIface]) (by simp [results, Tryz.results60, go_sem, Tok.val]) rfl ⟨_, rfl, ?_, Or.inl ⟨trivial, rfl⟩⟩
            exact (by (repeat (with_reducible first | refine Below.setCell ?_ (by simp) _ | refine below_drewN ?_ _ | refine Below.alloc ?_ (by simp) _)); exact Below.refl _ _)
          · have heb : (e0 != 0) = true := by simp [he]
            rw [if_neg he, Option.some.injEq, Prod.mk.injEq] at h
            obtain ⟨rfl, rfl⟩ := h
            have HWR := Aside0.mk (fun W => jtok_wrong.own (i : Int) e0 W)
            go_enter Tryz.func60, Tryz.ntmps60
            go_wp2_with (first | (go_at_call 53; (with_reducible refine (HIB.out _).mono ?_); rintro e w' ⟨rfl, rfl⟩) | (go_at_call 45; (with_reducible refine (HDG.out _).mono ?_); rintro e w' ⟨rfl, ⟨n1, rfl⟩⟩) | (go_at_call 58; (with_reducible refine (HR2.out _).mono ?_); rintro e w' ⟨rfl, ⟨n2, rfl⟩⟩) | (go_at_call 82; (with_reducible refine (HPA.out _).mono ?_); rintro e w' ⟨rfl, ⟨n3, rfl⟩⟩) | (go_at_call 83; (with_reducible refine (HWR.out _).mono ?_); rintro e w' ⟨v1, rfl, hT, hB⟩; have hT' := hT; unfold TroubleAt at hT'; obtain ⟨g, ga, hv, hg0, hg1⟩ := hT'; subst hv; obtain ⟨hc, hf⟩ := bcell hB; have hz : w.heap.size + 1 < w'.heap.size := (by have := hB.size; simp at this; omega)))
            have zz : w'.cell? ⟨w.heap.size, 1, none⟩ = some (.int .i64 0) := (hc _ _ (by simp [drewN_size]; try omega)).trans (by repeat (first | (simp; done) | (with_reducible refine cell_set ?_ (by simp)) | (with_reducible refine cell_drewN ?_ _) | (with_reducible refine cell_alloc ?_ _)))
            have z0 : w'.cell? ⟨w.heap.size, 0, none⟩ = some (.int .i64 0) := (hc _ _ (by simp [drewN_size]; try omega)).trans (by repeat (first | (simp; done) | (with_reducible refine cell_set ?_ (by simp)) | (with_reducible refine cell_drewN ?_ _) | (with_reducible refine cell_alloc ?_ _)))
            have z1 := zz
            have z2 : w'.cell? ⟨w.heap.size, 2, none⟩ = some (.int .i64 0) := (hc _ _ (by simp [drewN_size]; try omega)).trans (by repeat (first | (simp; done) | (with_reducible refine cell_set ?_ (by simp)) | (with_reducible refine cell_drewN ?_ _) | (with_reducible refine cell_alloc ?_ _)))
            have z3 : w'.cell? ⟨w.heap.size, 3, none⟩ = some (.string ⟨#[]⟩) := (hc _ _ (by simp [drewN_size]; try omega)).trans (by repeat (first | (simp; done) | (with_reducible refine cell_set ?_ (by simp)) | (with_reducible refine cell_drewN ?_ _) | (with_reducible refine cell_alloc ?_ _)))
            have z4 : w'.cell? ⟨w.heap.size, 4, none⟩ = some (.int .i64 0) := (hc _ _ (by simp [drewN_size]; try omega)).trans (by repeat (first | (simp; done) | (with_reducible refine cell_set ?_ (by simp)) | (with_reducible refine cell_drewN ?_ _) | (with_reducible refine cell_alloc ?_ _)))
            have hb0 : Below w.heap.size w w' := Below.trans (by (repeat (with_reducible first | refine Below.setCell ?_ (by simp) _ | refine below_drewN ?_ _ | refine Below.alloc ?_ (by simp) _)); exact Below.refl _ _) (hB.mono (by simp [drewN_size]; try omega))
            refine bodyPost_ret (v := .tuple #[Tok.val Tok.none, .iface 136 (.pointer (some ⟨g, 0, none⟩))]) (by simp [results, Tryz.results60, go_sem, Tok.val, Tok.none, z0, z1, z2, z3, z4, hz]) rfl ⟨_, rfl, ?_, Or.inr ⟨by first | decide | exact he, ?_⟩⟩
            · exact (by (repeat (with_reducible refine Below.setCell ?_ (by simp) _)); exact hb0)
            · exact hT.set5 z1 _ _ _ _ _
        · rw [if_neg (fun hh => hh.elim (fun q => by rw [hdg] at q; cases q) c45)] at h
          have c45b : (c == 45) = false := beq_eq_false_iff_ne.2 c45
          clear c45 hdg
          have hbd := runTo_bd wordB s i (Nat.le_of_lt hi)
          generalize runTo wordB s i = j at *
          obtain ⟨kd, hwd, h⟩ := Option.bind_eq_some_iff.1 h
          have HWD := Aside0.mk (fun W => jtok_word.calls _ kd W hwd)
          have q1 : ((i : Int) ≤ (j : Int)) = True := eq_true (by omega)
          have q2 : ((j : Int) ≤ (s.size : Int)) = True := eq_true (by omega)
          clear hwd HR2 hbd
          by_cases he : kd = 0
          · subst he
            rw [if_pos rfl, Option.some.injEq, Prod.mk.injEq] at h
            obtain ⟨rfl, rfl⟩ := h
            have HWR := Aside0.mk (fun W => jtok_wrong.own (i : Int) 3 W)
            go_enter Tryz.func60, Tryz.ntmps60
            go_wp2_with (first | (go_at_call 53; (with_reducible refine (HIB.out _).mono ?_); rintro e w' ⟨rfl, rfl⟩) | (go_at_call 45; (with_reducible refine (HDG.out _).mono ?_); rintro e w' ⟨rfl, ⟨n1, rfl⟩⟩) | (go_at_call 58; (with_reducible refine (HR1.out _).mono ?_); rintro e w' ⟨rfl, ⟨n2, rfl⟩⟩) | (go_at_call 85; (with_reducible refine (HWD.out _).mono ?_); rintro e w' ⟨rfl, ⟨n3, rfl⟩⟩) | (go_at_call 83; (with_reducible refine (HWR.out _).mono ?_); rintro e w' ⟨v1, rfl, hT, hB⟩; have hT' := hT; unfold TroubleAt at hT'; obtain ⟨g, ga, hv, hg0, hg1⟩ := hT'; subst hv; obtain ⟨hc, hf⟩ := bcell hB; have hz : w.heap.size + 1 < w'.heap.size := (by have := hB.size; simp at this; omega)))
            have zz : w'.cell? ⟨w.heap.size, 1, none⟩ = some (.int .i64 0) := (hc _ _ (by simp [drewN_size]; try omega)).trans (by repeat (first | (simp; done) | (with_reducible refine cell_set ?_ (by simp)) | (with_reducible refine cell_drewN ?_ _) | (with_reducible refine cell_alloc ?_ _)))
            have z0 : w'.cell? ⟨w.heap.size, 0, none⟩ = some (.int .i64 0) := (hc _ _ (by simp [drewN_size]; try omega)).trans (by repeat (first | (simp; done) | (with_reducible refine cell_set ?_ (by simp)) | (with_reducible refine cell_drewN ?_ _) | (with_reducible refine cell_alloc ?_ _)))
            have z1 := zz
            have z2 : w'.cell? ⟨w.heap.size, 2, none⟩ = some (.int .i64 0) := (hc _ _ (by simp [drewN_size]; try omega)).trans (by repeat (first | (simp; done) | (with_reducible refine cell_set ?_ (by simp)) | (with_reducible refine cell_drewN ?_ _) | (with_reducible refine cell_alloc ?_ _)))
            have z3 : w'.cell? ⟨w.heap.size, 3, none⟩ = some (.string ⟨#[]⟩) := (hc _ _ (by simp [drewN_size]; try omega)).trans (by repeat (first | (simp; done) | (with_reducible refine cell_set ?_ (by simp)) | (with_reducible refine cell_drewN ?_ _) | (with_reducible refine cell_alloc ?_ _)))
            have z4 : w'.cell? ⟨w.heap.size, 4, none⟩ = some (.int .i64 0) := (hc _ _ (by simp [drewN_size]; try omega)).trans (by repeat (first | (simp; done) | (with_reducible refine cell_set ?_ (by simp)) | (with_reducible refine cell_drewN ?_ _) | (with_reducible refine cell_alloc ?_ _)))
            have hb0 : Below w.heap.size w w' := Below.trans (by (repeat (with_reducible first | refine Below.setCell ?_ (by simp) _ | refine below_drewN ?_ _ | refine Below.alloc ?_ (by simp) _)); exact Below.refl _ _) (hB.mono (by simp [drewN_size]; try omega))
            refine bodyPost_ret (v := .tuple #[Tok.val Tok.none, .iface 136 (.pointer (some ⟨g, 0, none⟩))]) (by simp [results, Tryz.results60, go_sem, Tok.val, Tok.none, z0, z1, z2, z3, z4, hz]) rfl ⟨_, rfl, ?_, Or.inr ⟨by first | decide | exact he, ?_⟩⟩
            · exact (by (repeat (with_reducible refine Below.setCell ?_ (by simp) _)); exact hb0)
            · exact hT.set5 z1 _ _ _ _ _
          · have heb : (kd == 0) = false := beq_eq_false_iff_ne.2 he
            rw [if_neg he, Option.some.injEq, Prod.mk.injEq] at h
            obtain ⟨rfl, rfl⟩ := h
            go_enter Tryz.func60, Tryz.ntmps60
            go_wp2_with (first | (go_at_call 53; (with_reducible refine (HIB.out _).mono ?_); rintro e w' ⟨rfl, rfl⟩) | (go_at_call 45; (with_reducible refine (HDG.out _).mono ?_); rintro e w' ⟨rfl, ⟨n1, rfl⟩⟩) | (go_at_call 58; (with_reducible refine (HR1.out _).mono ?_); rintro e w' ⟨rfl, ⟨n2, rfl⟩⟩) | (go_at_call 85; (with_reducible refine (HWD.out _).mono ?_); rintro e w' ⟨rfl, ⟨n3, rfl⟩⟩))
            refine bodyPost_ret (v := .tuple #[Tok.val ⟨kd, i, j, ⟨#[]⟩, 0⟩, .nilIface]) (by simp [results, Tryz.results60, go_sem, Tok.val]) rfl ⟨_, rfl, ?_, Or.inl ⟨trivial, rfl⟩⟩
            exact (by (repeat (with_reducible first | refine Below.setCell ?_ (by simp) _ | refine below_drewN ?_ _ | refine Below.alloc ?_ (by simp) _)); exact Below.refl _ _)
end Go.Proofs.YtbcgailnhgknnaaGreatDoor.PLabelParse
