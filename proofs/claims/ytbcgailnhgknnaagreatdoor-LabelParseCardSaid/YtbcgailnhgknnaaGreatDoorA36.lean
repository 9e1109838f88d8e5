/- Proved here: what functions on this claim's road compute, each as a contract over the seat's program. Conditions: each theorem's own premises. -/
import Derived.Shelf.Abstract
import Derived.LaidEql
import Derived.Test.YtbcgailnhgknnaaGreatDoorA10
import Derived.Test.YtbcgailnhgknnaaGreatDoorA16
import Derived.Test.YtbcgailnhgknnaaGreatDoorA01
import Derived.Test.YtbcgailnhgknnaaGreatDoorA26
import Derived.Test.YtbcgailnhgknnaaGreatDoorA27
import Derived.Test.YtbcgailnhgknnaaGreatDoorA35
import Derived.Test.YtbcgailnhgknnaaGreatDoorA11
import Derived.Test.YtbcgailnhgknnaaGreatDoorA20
import Derived.Test.YtbcgailnhgknnaaGreatDoorA24
section
namespace Go.Proofs.YtbcgailnhgknnaaGreatDoor.PLabelParse
open Go.Proofs.YtbcgailnhgknnaaGreatDoorU8 Go.RowKit Go.Proofs.YtbcgailnhgknnaaGreatDoorW.PrintWords Go.Proofs.YtbcgailnhgknnaaGreatDoorW.PrintLast Go.Proofs.YtbcgailnhgknnaaGreatDoorW.PrintMore
attribute [local go_sem] max2_int min2_int max_two min_two max_three min_three max_four min_four   -- for this text's walks alone
set_option linter.unusedVariables false
set_option linter.unusedSimpArgs false
def jtok_Next.f (k : Nat) (s : ByteArray) (i : Nat) : Option (Tok × Int) :=
  if runTo blankB s i = s.size then some (Tok.none, 6) else (jtok_token.f k s (runTo blankB s i)).bind fun q => if q.2 = 0 then some (q.1, 0) else some (Tok.none, q.2)
theorem jtok_blank.own (c : Int) (W : World) : Calls Tryz.prog 59 #[.int .u8 c] W fun e w' => e = .returned (.bool (blankB c)) ∧ Drawn0 W w' :=
  jtok_blank.calls 1 c _ W (by
    unfold jtok_blank.f blankB
    by_cases a1 : c = 10 <;> by_cases a2 : c = 13 <;> by_cases a3 : c = 32 <;> by_cases a4 : c = 9 <;> simp [jtok_blank.j0, *] <;> omega)
set_option maxHeartbeats 2000000 in
set_option maxRecDepth 100000 in
theorem jtok_Next.own (k : Nat) (s : ByteArray) (i : Nat) (hs : s.size ≤ 1099511627776) (hi : i ≤ s.size) (t : Tok) (en : Int) (w : World) (hE : ErrCell w) (h : jtok_Next.f k s i = some (t, en)) :
    Calls Tryz.prog 39 #[.string s, .int .i64 i] w fun ev w' => ev = .returned (.tuple #[t.val, .int .i64 en]) ∧ Below w.heap.size w w' := by
  have eg : ∀ args w, (callFunc 59 args).run Tryz.prog w = .ok (.enter 59 args) w := enters_of Tryz.func59 (by kernel_rfl) rfl
  have HR := Aside0.mk (fun W => jtok_run.own s (by omega) i hi 59 blankB W eg (fun c W _ _ => jtok_blank.own c W))
  clear eg
  unfold jtok_Next.f at h
  have hbd := runTo_bd blankB s i hi
  generalize runTo blankB s i = j at *
  have g1 : decide ((i : Int) < 0) = false := decide_eq_false (by omega)
  have g2 : decide ((s.size : Int) < (i : Int)) = false := decide_eq_false (by omega)
  have hE' := Aside0.mk hE
  clear hE
  by_cases hj : j = s.size
  · rw [if_pos hj, Option.some.injEq, Prod.mk.injEq] at h
    obtain ⟨rfl, rfl⟩ := h
    subst hj
    clear hbd
    go_enter Tryz.func39, Tryz.ntmps39
    go_wp2_with (go_at_call 58; (with_reducible refine (HR.out _).mono ?_); rintro e w' ⟨rfl, ⟨n1, rfl⟩⟩)
    refine bodyPost_ret (v := .tuple #[Tok.val Tok.none, .int .i64 6]) (by simp [results, Tryz.results39, go_sem, Tok.val, Tok.none]) rfl ⟨rfl, ?_⟩
    exact (by (repeat (with_reducible first | refine Below.setCell ?_ (by simp) _ | refine below_drewN ?_ _ | refine Below.alloc ?_ (by simp) _)); exact Below.refl _ _)
  · rw [if_neg hj] at h
    have hjb : ((j : Int) == (s.size : Int)) = false := beq_eq_false_iff_ne.2 (by omega)
    have hjn : (j == s.size) = false := beq_eq_false_iff_ne.2 (by omega)
    obtain ⟨⟨t0, e0⟩, ht, h⟩ := Option.bind_eq_some_iff.1 h
    have hjl : j < s.size := by omega
    have HT := Aside0.mk (fun W => jtok_token.own k s j hs hjl t0 e0 W ht)
    clear ht hbd hj hjl
    simp only at h
    by_cases he : e0 = 0
    · subst he
      rw [if_pos rfl, Option.some.injEq, Prod.mk.injEq] at h
      obtain ⟨rfl, rfl⟩ := h
      obtain ⟨t1, t2, t3, t4, t5⟩ := t0
      simp only [Tok.val] at HT ⊢
      go_enter Tryz.func39, Tryz.ntmps39
      go_wp2_with (first | (go_at_call 58; (with_reducible refine (HR.out _).mono ?_); rintro e w' ⟨rfl, ⟨n1, rfl⟩⟩) | (go_at_call 60; (with_reducible refine (HT.out _).mono ?_); rintro e w' ⟨v1, rfl, hB, hor⟩; obtain ⟨hc, hf⟩ := bcell hB; have hz : w.heap.size < w'.heap.size := (by have := hB.size; simp [drewN_size] at this; omega); obtain rfl : v1 = .nilIface := (by rcases hor with h | h; exact h.2; exact absurd rfl h.1); clear hor))
      have z0 : w'.cell? ⟨w.heap.size, 0, none⟩ = some (.int .i64 0) := (hc _ _ (by simp [drewN_size])).trans (by repeat (first | (simp; done) | (with_reducible refine cell_set ?_ (by simp)) | (with_reducible refine cell_drewN ?_ _) | (with_reducible refine cell_alloc ?_ _)))
      have z1 : w'.cell? ⟨w.heap.size, 1, none⟩ = some (.int .i64 0) := (hc _ _ (by simp [drewN_size])).trans (by repeat (first | (simp; done) | (with_reducible refine cell_set ?_ (by simp)) | (with_reducible refine cell_drewN ?_ _) | (with_reducible refine cell_alloc ?_ _)))
      have z2 : w'.cell? ⟨w.heap.size, 2, none⟩ = some (.int .i64 0) := (hc _ _ (by simp [drewN_size])).trans (by repeat (first | (simp; done) | (with_reducible refine cell_set ?_ (by simp)) | (with_reducible refine cell_drewN ?_ _) | (with_reducible refine cell_alloc ?_ _)))
      have z3 : w'.cell? ⟨w.heap.size, 3, none⟩ = some (.string ⟨#[]⟩) := (hc _ _ (by simp [drewN_size])).trans (by repeat (first | (simp; done) | (with_reducible refine cell_set ?_ (by simp)) | (with_reducible refine cell_drewN ?_ _) | (with_reducible refine cell_alloc ?_ _)))
      have z4 : w'.cell? ⟨w.heap.size, 4, none⟩ = some (.int .i64 0) := (hc _ _ (by simp [drewN_size])).trans (by repeat (first | (simp; done) | (with_reducible refine cell_set ?_ (by simp)) | (with_reducible refine cell_drewN ?_ _) | (with_reducible refine cell_alloc ?_ _)))
      have hb0 : Below w.heap.size w w' := Below.trans (by (repeat (with_reducible first | refine Below.setCell ?_ (by simp) _ | refine below_drewN ?_ _ | refine Below.alloc ?_ (by simp [drewN_size]; try omega) _)); exact Below.refl _ _) (hB.mono (by simp [drewN_size]))
      refine bodyPost_ret (v := .tuple #[.agg #[.int .i64 t1, .int .i64 t2, .int .i64 t3, .string t4, .int .i64 t5], .int .i64 0]) (by simp [results, Tryz.results39, go_sem, z0, z1, z2, z3, z4, hz]) rfl ⟨rfl, ?_⟩
      exact (by (repeat (with_reducible first | refine Below.setCell ?_ (by simp) _ | refine below_drewN ?_ _ | refine Below.alloc ?_ (by simp [drewN_size]; try omega) _)); first | exact hb0 | exact Below.refl _ _)
    · rw [if_neg he, Option.some.injEq, Prod.mk.injEq] at h
      obtain ⟨rfl, rfl⟩ := h
      obtain ⟨t1, t2, t3, t4, t5⟩ := t0
      simp only [Tok.val] at HT ⊢
      go_enter Tryz.func39, Tryz.ntmps39
      go_wp2_with (first | (go_at_call 58; (with_reducible refine (HR.out _).mono ?_); rintro e w' ⟨rfl, ⟨n1, rfl⟩⟩) | (go_at_call 60; (with_reducible refine (HT.out _).mono ?_); rintro e w' ⟨v1, rfl, hB, hor⟩; obtain ⟨hc, hf⟩ := bcell hB; have hz : w.heap.size < w'.heap.size := (by have := hB.size; simp [drewN_size] at this; omega); have hT := Aside0.mk (hor.resolve_left (fun hh => he hh.1)).2; obtain ⟨g, ga, hv, hg0, hg1⟩ := hT.out; subst hv; clear hg0 hg1 hor) | (go_at_call 61; (with_reducible refine (jtok_number.own _ e0 _ (by exact (hE'.out.below ((Below.trans (by (repeat (with_reducible first | refine below_drewN ?_ _ | refine Below.alloc ?_ (by simp) _)); exact Below.refl _ _) (hB.mono (by simp [drewN_size]))).alloc (by first | omega | (simp; omega)) _))) (by exact hT.out.below ((Below.refl _ _).alloc (Nat.le_refl _) _))).mono ?_); rintro e w2 ⟨rfl, hB2⟩; obtain ⟨hc2, hf2⟩ := bcell hB2; have hz2 : w'.heap.size < w2.heap.size := (by have := hB2.size; simp at this; omega)))
      have z0 : w2.cell? ⟨w.heap.size, 0, none⟩ = some (.int .i64 0) := (hc2 _ _ (by simp; omega)).trans (cell_alloc ((hc _ _ (by simp [drewN_size])).trans (by repeat (first | (simp; done) | (with_reducible refine cell_set ?_ (by simp)) | (with_reducible refine cell_drewN ?_ _) | (with_reducible refine cell_alloc ?_ _)))) _)
      have z1 : w2.cell? ⟨w.heap.size, 1, none⟩ = some (.int .i64 0) := (hc2 _ _ (by simp; omega)).trans (cell_alloc ((hc _ _ (by simp [drewN_size])).trans (by repeat (first | (simp; done) | (with_reducible refine cell_set ?_ (by simp)) | (with_reducible refine cell_drewN ?_ _) | (with_reducible refine cell_alloc ?_ _)))) _)
      have z2 : w2.cell? ⟨w.heap.size, 2, none⟩ = some (.int .i64 0) := (hc2 _ _ (by simp; omega)).trans (cell_alloc ((hc _ _ (by simp [drewN_size])).trans (by repeat (first | (simp; done) | (with_reducible refine cell_set ?_ (by simp)) | (with_reducible refine cell_drewN ?_ _) | (with_reducible refine cell_alloc ?_ _)))) _)
      have z3 : w2.cell? ⟨w.heap.size, 3, none⟩ = some (.string ⟨#[]⟩) := (hc2 _ _ (by simp; omega)).trans (cell_alloc ((hc _ _ (by simp [drewN_size])).trans (by repeat (first | (simp; done) | (with_reducible refine cell_set ?_ (by simp)) | (with_reducible refine cell_drewN ?_ _) | (with_reducible refine cell_alloc ?_ _)))) _)
      have z4 : w2.cell? ⟨w.heap.size, 4, none⟩ = some (.int .i64 0) := (hc2 _ _ (by simp; omega)).trans (cell_alloc ((hc _ _ (by simp [drewN_size])).trans (by repeat (first | (simp; done) | (with_reducible refine cell_set ?_ (by simp)) | (with_reducible refine cell_drewN ?_ _) | (with_reducible refine cell_alloc ?_ _)))) _)
      have hb0 : Below w.heap.size w w' := Below.trans (by (repeat (with_reducible first | refine below_drewN ?_ _ | refine Below.alloc ?_ (by simp) _)); exact Below.refl _ _) (hB.mono (by simp [drewN_size]))
      have hb2 : Below w.heap.size w w2 := (hb0.alloc (by omega) _).trans (hB2.mono (by simp; omega))
      refine bodyPost_ret (v := .tuple #[Tok.val Tok.none, .int .i64 e0]) (by simp [results, Tryz.results39, go_sem, Tok.val, Tok.none, z0, z1, z2, z3, z4, hz, hz2]) rfl ⟨rfl, ?_⟩
      exact (by (repeat (with_reducible first | refine Below.setCell ?_ (by simp) _ | refine below_drewN ?_ _ | refine Below.alloc ?_ (by simp [drewN_size]; try omega) _)); exact hb2)
end Go.Proofs.YtbcgailnhgknnaaGreatDoor.PLabelParse
end
section
namespace Go.Proofs.YtbcgailnhgknnaaGreatDoor.PLabelParse
open Go.Proofs.YtbcgailnhgknnaaGreatDoorU8 Go.RowKit Go.Proofs.YtbcgailnhgknnaaGreatDoorW.PrintWords Go.Proofs.YtbcgailnhgknnaaGreatDoorW.PrintLast Go.Proofs.YtbcgailnhgknnaaGreatDoorW.PrintMore
attribute [local go_sem] max2_int min2_int max_two min_two max_three min_three max_four min_four   -- for this text's walks alone
set_option linter.unusedVariables false
set_option linter.unusedSimpArgs false
def label_pairs.l (k : Nat) : Nat → ByteArray → PS → Option (PS × Bool)
  | 0, _, _ => none
  | n + 1, s, out =>
    if 0 ≤ Lib.indexByte s.data.toList 61 then
      (jtok_Next.f k (s.extract ((Lib.indexByte s.data.toList 61).toNat + 1) s.size) 0).bind fun q =>
        if q.2 = 0 then if q.1.kind = 7 then if q.1.from_ = 0 then
          (if 0 ≤ q.1.to_ ∧ q.1.to_ ≤ ((s.extract ((Lib.indexByte s.data.toList 61).toNat + 1) s.size).size : Int) then
            (strings_CutPrefix.f ((s.extract ((Lib.indexByte s.data.toList 61).toNat + 1) s.size).extract q.1.to_.toNat (s.extract ((Lib.indexByte s.data.toList 61).toNat + 1) s.size).size) ⟨#[44]⟩).bind fun r =>
              if r.2 = true then label_pairs.l k n r.1 (out ++ [(s.extract 0 (Lib.indexByte s.data.toList 61).toNat, q.1.text)])
              else some (out ++ [(s.extract 0 (Lib.indexByte s.data.toList 61).toNat, q.1.text)], decide (r.1.size = 0))
          else none)
        else some ([], false) else some ([], false) else some ([], false)
    else some ([], false)
def label_pairs.f (k : Nat) (s : ByteArray) : Option (PS × Bool) := if s.size = 0 then some ([], true) else label_pairs.l k k s []
theorem next_empty (k : Nat) : jtok_Next.f k ⟨#[]⟩ 0 = some (Tok.none, 6) := by
  unfold jtok_Next.f
  have h : runTo blankB ⟨#[]⟩ 0 = (⟨#[]⟩ : ByteArray).size := runTo_end blankB ⟨#[]⟩
  rw [if_pos h]
theorem cutPrefix_le {a b r1 : ByteArray} {r2 : Bool} (h : strings_CutPrefix.f a b = some (r1, r2)) : r1.size ≤ a.size := by
  unfold strings_CutPrefix.f stringslite_CutPrefix.f at h
  simp only [Option.bind_eq_some_iff] at h
  obtain ⟨⟨p1, p2⟩, ⟨t, ht, h⟩, h2⟩ := h
  simp only [Option.some.injEq, Prod.mk.injEq] at h2
  obtain ⟨rfl, rfl⟩ := h2
  (repeat' split at h) <;> simp at h <;> obtain ⟨rfl, rfl⟩ := h <;> simp
def PairsPost (ps : PS) (ok : Bool) (w : World) (e : Ending) (w' : World) : Prop := ∃ v, e = .returned (.tuple #[v, .bool ok]) ∧ PairsAt 47 w' w.heap.size v ps ∧ Below w.heap.size w w'
set_option maxHeartbeats 2000000 in
set_option maxRecDepth 100000 in
theorem label_pairs.own (k : Nat) (s0 : ByteArray) (hs : s0.size ≤ 4294967280) (ps : PS) (ok : Bool) (w : World) (hE : ErrCell w) (h : label_pairs.f k s0 = some (ps, ok)) :
    Calls Tryz.prog 18 #[.string s0] w (PairsPost ps ok w) := by
  unfold label_pairs.f at h
  have HE := Aside0.mk hE
  clear hE
  have H0 := Aside0.mk h
  clear h
  go_enter Tryz.func18, Tryz.ntmps18
  go_wp2
  go_loopw [0, 4, 5] (fun s_ v m wr => ∃ (s : ByteArray) (out : PS), s_ = .string s ∧ ((m = .bool true ∧ Aside0 (out.length + s.size ≤ s0.size ∧ ∃ n, label_pairs.l k n s out = some (ps, ok))) ∨ (m = .bool false ∧ Aside0 (ps = out ∧ ok = decide (s.size = 0)))) ∧ Aside0 (PairsAt 47 wr w.heap.size v out) ∧ Aside0 (Below w.heap.size w wr)) (fun s_ _ m _ => match s_, m with | .string s, .bool true => s.size + 1 | _, _ => 0)
  case atStart =>
    have h := H0.out
    by_cases h0 : s0.size = 0
    · rw [if_pos h0, Option.some.injEq, Prod.mk.injEq] at h
      have en : s0.toList = [] := (ba_nil _).2 h0
      exact ⟨s0, [], rfl, Or.inr ⟨by simp [en], ⟨h.1.symm, by rw [← h.2]; simp [h0]⟩⟩, ⟨pairs_nil _ _ _⟩, ⟨Below.refl _ _⟩⟩
    · rw [if_neg h0] at h
      have en : ¬ s0.toList = [] := fun h => h0 ((ba_nil _).1 h)
      exact ⟨s0, [], rfl, Or.inl ⟨by simp [en], ⟨by simp, k, h⟩⟩, ⟨pairs_nil _ _ _⟩, ⟨Below.refl _ _⟩⟩
  case round =>
    clear H0
    obtain ⟨s, out, rfl, hor, HO, HB⟩ := hrel
    rcases hor with ⟨rfl, HX⟩ | ⟨rfl, HX⟩
    case inr =>
      obtain ⟨rfl, rfl⟩ := HX.out
      clear HX
      go_wp2
      go_ret2
      refine ⟨_, ?_, HO.out, HB.out⟩
      have : (s.toList == ([] : List UInt8)) = decide (s.size = 0) := by
        by_cases h : s.size = 0
        · simp [h, (ba_nil s).2 h]
        · have : ¬ s.toList = [] := fun e => h ((ba_nil s).1 e)
          simp [h, this]
      rw [← this]
      first | rfl | (congr 3; simp)
    case inl =>
      obtain ⟨hlen0, n, hl0⟩ := HX.out
      have HLen := Aside0.mk hlen0
      have HL := Aside0.mk hl0
      clear hlen0 hl0 HX
      cases n with
      | zero => exact absurd HL.out (by simp [label_pairs.l])
      | succ n =>
        have H := HL.out
        clear HL
        simp only [label_pairs.l] at H
        have hsz : s.size ≤ 4294967280 := by have := HLen.out; omega
        have HC := Aside0.mk (fun W => strings_CutOne.own s (by omega) 61 W)
        unfold cutV at HC
        by_cases hi : 0 ≤ Lib.indexByte s.data.toList 61
        · rw [if_pos hi] at H HC
          have hlt := indexByte_lt hi
          have hlen : s.data.toList.length = s.size := Array.length_toList
          rw [hlen] at hlt
          generalize (Lib.indexByte s.data.toList 61).toNat = i at *
          clear hi hlen
          have hrs : (s.extract (i + 1) s.size).size = s.size - (i + 1) := by simp
          generalize s.extract (i + 1) s.size = rest at *
          generalize s.extract 0 i = name at *
          obtain ⟨⟨t, e0⟩, hn, H⟩ := Option.bind_eq_some_iff.1 H
          have HN := Aside0.mk (fun W hE => jtok_Next.own k rest 0 (by omega) (Nat.zero_le _) t e0 W hE hn)
          obtain ⟨t1, t2, t3, t4, t5⟩ := t
          simp only [Tok.val] at HN H
          have HRS := Aside0.mk (show rest.size + 1 ≤ s.size by omega)
          clear hn hrs hlt hsz
          go_wp2_with fail
          refine (HC.out _).mono ?_
          rintro e w1 ⟨rfl, ⟨n1, rfl⟩⟩
          go_wp2_with fail
          refine (HN.out _ (by exact HE.out.below (below_drewN HB.out _))).mono ?_
          rintro e w2 ⟨rfl, hB2⟩
          have HB2 := Aside0.mk ((below_drewN HB.out n1).trans (hB2.mono (by have := HB.out.size; simp [drewN_size]; omega)))
          have HO2 := Aside0.mk (pairs_below (pairs_below HO.out (below_drewN (Below.refl _ _) n1)) hB2)
          clear hB2 HO HB HC HN
          by_cases he : e0 = 0
          · subst he
            rw [if_pos rfl] at H
            by_cases hk : t1 = 7
            · subst hk
              rw [if_pos rfl] at H
              by_cases hf : t2 = 0
              · subst hf
                rw [if_pos rfl] at H
                split at H
                case isFalse => cases H
                rename_i hto
                obtain ⟨m, rfl⟩ := Int.eq_ofNat_of_zero_le hto.1
                have hm2 : m ≤ rest.size := by omega
                simp only [Int.toNat_natCast] at H
                obtain ⟨⟨r1, r2⟩, hcp, H⟩ := Option.bind_eq_some_iff.1 H
                have HCP := Aside0.mk (fun W => strings_CutPrefix.calls _ _ r1 r2 W hcp)
                have hr1 := cutPrefix_le hcp
                have HR1 := Aside0.mk (show r1.size ≤ rest.size by simp at hr1; omega)
                have HQ := Aside0.mk H
                have q1 : ((m : Int) ≤ (rest.size : Int)) = True := eq_true (by omega)
                clear hcp hr1 H hto hm2
                obtain ⟨i0, hi, hz0, hz1, hz2⟩ := info_parts pair_info
                have HOW := Aside0.mk ((HO2.out.alloc (.cells #[.int .i64 7, .int .i64 0, .int .i64 m, .string t4, .int .i64 t5] 72)).alloc (.cells #[.string name, .string t4] 47))
                have HLe := Aside0.mk (show out.length ≤ 4294967280 by have := HLen.out; omega)
                have HBS := Aside0.mk (show w.heap.size ≤ w2.heap.size from HB2.out.size)
                go_wp2_with (at_builtin; refine wpList_append_own _ rfl _ _ 22 rfl w.heap.size 47 i0 _ 2 32 Tryz.underlying22 hi hz0 hz1 hz2 rfl (by decide) _ _ _ rfl HOW.out ⟨w2.heap.size + 1, 0, none⟩ 1 1 [.string name, .string t4] rfl rfl ?c1 ?c2 ?c3 ?c4 ?c5 ?_)
                case c1 =>
                  intro j u hj
                  match j, hj with
                  | 0, hj => simp at hj; subst hj; simp [Addr.add]
                  | 1, hj => simp at hj; subst hj; simp [Addr.add]
                  | j + 2, hj => simp at hj
                case c2 => intro u hu; simp at hu; rcases hu with rfl | rfl <;> rfl
                case c3 => have := HLe.out; unfold maxLen; omega
                case c4 => have := HLe.out; omega
                case c5 => have := HBS.out; simp; omega
                intro v3 w3 hown3 hgrow3 _
                have tb : w3.heap[w2.heap.size]? = some (.cells #[.int .i64 7, .int .i64 0, .int .i64 m, .string t4, .int .i64 t5] 72 (0, 0)) := by
                  rw [hgrow3.block w2.heap.size (by simp; omega) (fun e => by have := (HO2.out.lt _ e.symm).2; omega)]
                  rw [Lib.alloc_old _ _ _ (by simp)]
                  exact heap_alloc_new _ _
                have c2 : w3.cell? ⟨w2.heap.size, 2, none⟩ = some (.int .i64 m) := (Lib.cell_of_heap tb 2).trans rfl
                have HP3 := Aside0.mk (show PairsAt 47 w3 w.heap.size v3 (out ++ [(name, t4)]) by unfold PairsAt; rw [flatP_append]; simpa [flatP, encP] using hown3)
                have HB3 := Aside0.mk (show Below w.heap.size w w3 from ((HB2.out.alloc (by have := HBS.out; omega) _).alloc (by have := HBS.out; simp; omega) _).grown hgrow3 (by have := HBS.out; simp; omega) (fun k hk => (HOW.out.lt k hk).1))
                clear hown3 hgrow3 tb hi hz0 hz1 hz2
                go_wp2_with fail
                refine (HCP.out _).mono ?_
                rintro e w4 ⟨rfl, ⟨n4, rfl⟩⟩
                cases r2 with
                | true =>
                  have H2 := HQ.out
                  simp only [if_true] at H2
                  have H3 := Aside0.mk H2
                  clear H2
                  go_wp2
                  refine ⟨⟨r1, out ++ [(name, t4)], rfl, Or.inl ⟨rfl, ⟨?_, n, H3.out⟩⟩, ⟨pairs_below HP3.out (below_drewN (Below.refl _ _) _)⟩, ⟨below_drewN HB3.out _⟩⟩, ?_⟩
                  · have h1 := HR1.out; have h2 := HRS.out; have h3 := HLen.out
                    simp only [List.length_append, List.length_cons, List.length_nil]
                    omega
                  · have h1 := HR1.out; have h2 := HRS.out
                    show r1.size + 1 < s.size + 1
                    omega
                | false =>
                  have H2 := HQ.out
                  simp only [Bool.false_eq_true, if_false, Option.some.injEq, Prod.mk.injEq] at H2
                  have H3 := Aside0.mk H2
                  clear H2
                  go_wp2
                  exact ⟨⟨r1, out ++ [(name, t4)], rfl, Or.inr ⟨rfl, ⟨H3.out.1.symm, H3.out.2.symm⟩⟩, ⟨pairs_below HP3.out (below_drewN (Below.refl _ _) _)⟩, ⟨below_drewN HB3.out _⟩⟩, Nat.succ_pos _⟩
              · rw [if_neg hf] at H
                have hfb : (t2 != 0) = true := by simp [hf]
                rw [Option.some.injEq, Prod.mk.injEq] at H
                obtain ⟨rfl, rfl⟩ := H
                go_wp2
                go_ret2
                exact ⟨_, rfl, pairs_nil _ _ _, (HB2.out.alloc (by have := HB2.out.size; omega) _)⟩
            · rw [if_neg hk] at H
              have hkb : (t1 != 7) = true := by simp [hk]
              rw [Option.some.injEq, Prod.mk.injEq] at H
              obtain ⟨rfl, rfl⟩ := H
              go_wp2
              go_ret2
              exact ⟨_, rfl, pairs_nil _ _ _, (HB2.out.alloc (by have := HB2.out.size; omega) _)⟩
          · rw [if_neg he] at H
            have heb : (e0 != 0) = true := by simp [he]
            rw [Option.some.injEq, Prod.mk.injEq] at H
            obtain ⟨rfl, rfl⟩ := H
            go_wp2
            go_ret2
            exact ⟨_, rfl, pairs_nil _ _ _, (HB2.out.alloc (by have := HB2.out.size; omega) _)⟩
        · rw [if_neg hi] at H HC
          rw [Option.some.injEq, Prod.mk.injEq] at H
          obtain ⟨rfl, rfl⟩ := H
          have HN := Aside0.mk (fun W hE => jtok_Next.own k ⟨#[]⟩ 0 (by decide) (Nat.zero_le _) Tok.none 6 W hE (next_empty k))
          simp only [Tok.val, Tok.none] at HN
          clear hi hsz
          go_wp2_with fail
          refine (HC.out _).mono ?_
          rintro e w1 ⟨rfl, ⟨n1, rfl⟩⟩
          go_wp2_with fail
          refine (HN.out _ (by exact HE.out.below (below_drewN HB.out _))).mono ?_
          rintro e w2 ⟨rfl, hB2⟩
          have HB2 := Aside0.mk ((below_drewN HB.out n1).trans (hB2.mono (by have := HB.out.size; simp [drewN_size]; omega)))
          clear hB2 HO HB HC HN
          go_wp2
          go_ret2
          exact ⟨_, rfl, pairs_nil _ _ _, (HB2.out.alloc (by have := HB2.out.size; omega) _)⟩
end Go.Proofs.YtbcgailnhgknnaaGreatDoor.PLabelParse
end
