/- Proved here: what functions on this claim's road compute, each as a contract over the seat's program. Conditions: each theorem's own premises. -/
import Derived.Test.YtbcgailnhgknnaaGreatDoorA01
import Derived.Test.YtbcgailnhgknnaaGreatDoorA17
import Derived.Test.YtbcgailnhgknnaaGreatDoorA18
section
namespace Go.Proofs.YtbcgailnhgknnaaGreatDoor.PLabelParse
open Go.Proofs.YtbcgailnhgknnaaGreatDoorU8 Go.RowKit Go.Proofs.YtbcgailnhgknnaaGreatDoorW.PrintWords Go.Proofs.YtbcgailnhgknnaaGreatDoorW.PrintLast Go.Proofs.YtbcgailnhgknnaaGreatDoorW.PrintMore
attribute [local go_sem] max2_int min2_int max_two min_two max_three min_three max_four min_four   -- for this text's walks alone
set_option linter.unusedVariables false
set_option linter.unusedSimpArgs false
theorem utf_wanted.spec (k : Nat) (c : Int) : utf_wanted.f (k + 2) c = some (u8n c) := by
  unfold utf_wanted.f u8n
  simp only [utf_wanted.j0, utf_wanted.j1, decide_eq_true_eq, Bool.false_eq_true, if_false]
  have : c < 128 ∨ (128 ≤ c ∧ c < 194) ∨ (194 ≤ c ∧ c < 224) ∨ (224 ≤ c ∧ c < 240) ∨ (240 ≤ c ∧ c < 245) ∨ 245 ≤ c := by omega
  rcases this with h | h | h | h | h | h <;> simp (disch := omega) only [if_pos, if_neg]
theorem wrap64_one (x : Int) (h0 : 0 ≤ x) (h : x < 100) : wrap64 (x + 1) = x + 1 := by unfold wrap64; omega
theorem utf_fits.loop (k : Nat) (l : List Int) (n lo hi i : Int) (h4 : n ≤ 4) (h1 : 1 ≤ i) (hi4 : i ≤ 4) (hlo : lo = if i = 1 then lo1 (rd l 0) else 128) (hhi : hi = if i = 1 then hi1 (rd l 0) else 191) (hk : (4 - i).toNat < k) :
    utf_fits.l0 k l n lo hi i = some ((decide (2 ≤ i) || u8at l n 1) && ((decide (3 ≤ i) || u8at l n 2) && (decide (4 ≤ i) || u8at l n 3))) := by
  induction k generalizing lo hi i with
  | zero => omega
  | succ k ih =>
    simp only [utf_fits.l0]
    have hm : mn n (l.length : Int) = if n ≤ (l.length : Int) then n else (l.length : Int) := by unfold mn; omega
    rw [hm]
    by_cases hlt : i < (if n ≤ (l.length : Int) then n else (l.length : Int))
    · rw [if_pos hlt]
      have hl : i < (l.length : Int) := by split at hlt <;> omega
      have hn : i < n := by split at hlt <;> omega
      rw [if_pos (by omega), if_pos hl]
      have hat : u8at l n i = (decide (lo ≤ rd l i) && decide (rd l i ≤ hi)) := by
        unfold u8at u8ok
        rw [hlo, hhi, show decide (n ≤ i) = false by simp; omega, show decide ((l.length : Int) ≤ i) = false by simp; omega]
        rfl
      have hc : i = 1 ∨ i = 2 ∨ i = 3 := by omega
      by_cases a : rd l i < lo
      · rw [if_pos a]
        have : u8at l n i = false := by rw [hat]; simp; omega
        rcases hc with rfl | rfl | rfl <;> simp [this]
      · rw [if_neg a]
        by_cases b : rd l i > hi
        · rw [if_pos b]
          have : u8at l n i = false := by rw [hat]; simp; omega
          rcases hc with rfl | rfl | rfl <;> simp [this]
        · rw [if_neg b]
          have ht : u8at l n i = true := by rw [hat]; simp; omega
          rw [wrap64_one i (by omega) (by omega), ih 128 191 (i + 1) (by omega) (by omega) (by rw [if_neg (by omega)]) (by rw [if_neg (by omega)]) (by omega)]
          rcases hc with rfl | rfl | rfl <;> simp [ht]
    · rw [if_neg hlt]
      have hz : ∀ j, i ≤ j → u8at l n j = true := by
        intro j hj
        unfold u8at
        split at hlt
        · simp; omega
        · simp; omega
      have hc : i = 1 ∨ i = 2 ∨ i = 3 ∨ i = 4 := by omega
      rcases hc with rfl | rfl | rfl | rfl
      · simp [hz 1 (by omega), hz 2 (by omega), hz 3 (by omega)]
      · simp [hz 2 (by omega), hz 3 (by omega)]
      · simp [hz 3 (by omega)]
      · simp
theorem utf_fits.spec (k : Nat) (l : List Int) (n : Int) (hl : 0 < l.length) (h4 : n ≤ 4) : utf_fits.f (k + 5) l n = some (u8fits l n) := by
  unfold utf_fits.f
  simp only [utf_fits.j0]
  rw [if_pos (by omega)]
  have key : ∀ lo hi, lo = lo1 (rd l 0) → hi = hi1 (rd l 0) → utf_fits.l0 (k + 4) l n lo hi 1 = some (u8fits l n) := by
    intro lo hi e1 e2
    rw [utf_fits.loop (k + 4) l n lo hi 1 h4 (by omega) (by omega) (by simpa using e1) (by simpa using e2) (by omega)]
    simp [u8fits]
  unfold lo1 hi1 at key
  repeat' split
  all_goals
    refine key _ _ ?_ ?_ <;> simp [*]
def utf_Next.f (l0 : List Int) : Option (Int × Int × Int) := if l0.all isB = true then some (u8next l0) else none
theorem u8_base (b : Int) (h0 : 0 ≤ b) (h1 : b ≤ 255) (hn : u8n b ≠ 0) : Go.bits .andNot .i32 (wrap32 b) (utf_lead.v (u8n b)) = b - u8lead (u8n b) ∧ 0 ≤ b - u8lead (u8n b) ∧ b - u8lead (u8n b) < 128 ∧ (u8n b ≠ 1 → b - u8lead (u8n b) < 32) := by
  obtain ⟨n, rfl⟩ := Int.eq_ofNat_of_zero_le h0
  have hlt : n < 256 := by omega
  revert hn
  clear h0 h1
  have key : ∀ m : Fin 256, u8n (m.val : Int) ≠ 0 → Go.bits .andNot .i32 (wrap32 (m.val : Int)) (utf_lead.v (u8n (m.val : Int))) = (m.val : Int) - u8lead (u8n (m.val : Int)) ∧ 0 ≤ (m.val : Int) - u8lead (u8n (m.val : Int)) ∧ (m.val : Int) - u8lead (u8n (m.val : Int)) < 128 ∧ (u8n (m.val : Int) ≠ 1 → (m.val : Int) - u8lead (u8n (m.val : Int)) < 32) := by decide +kernel
  exact key ⟨n, hlt⟩
theorem u8_step (x c : Int) (hx0 : 0 ≤ x) (hx1 : x < 1048576) (hc0 : 128 ≤ c) (hc1 : c ≤ 191) : Go.bits .or .i32 (wrap32 (x * 64)) (Go.bits .and .i32 (wrap32 c) 63) = x * 64 + (c - 128) := by
  have e1 : wrap32 (x * 64) = x * 64 := by unfold wrap32; omega
  have e2 : wrap32 c = c := by unfold wrap32; omega
  rw [e1, e2]
  obtain ⟨y, rfl⟩ : ∃ y, c = 128 + y := ⟨c - 128, by omega⟩
  have e3 : Go.bits .and .i32 (128 + y) 63 = y := by
    have h6 : (63 : Int) = 2 ^ 6 - 1 := by decide
    rw [h6, bits_mask .i32 31 (by decide) wraps_i32 6 (by decide) (128 + y) (by omega) (by omega)]
    have : (2 : Int) ^ 6 = 64 := by decide
    rw [this]
    omega
  rw [e3]
  refine (i32_or6 (x * 64) y (by omega) (by omega) (by omega) (by omega) (by omega)).trans ?_
  omega
theorem u8acc_bd (l : List Int) (n : Int) (k : Nat) (hk : k ≤ 3) (h0 : 0 ≤ rd l 0 - u8lead n) (h1 : rd l 0 - u8lead n < 32) (hc : ∀ j : Int, 1 ≤ j → j ≤ k → 128 ≤ rd l j ∧ rd l j ≤ 191) : 0 ≤ u8acc l n k ∧ u8acc l n k < 32 * 64 ^ k := by
  induction k with
  | zero => simp only [u8acc]; omega
  | succ k ih =>
    obtain ⟨a, b⟩ := ih (by omega) (fun j h h' => hc j h (by omega))
    obtain ⟨c, d⟩ := hc ((k : Int) + 1) (by omega) (by omega)
    simp only [u8acc, Int.pow_succ]
    omega
theorem u8ok_range (l : List Int) (k : Int) (h : u8ok l k = true) : 128 ≤ rd l k ∧ rd l k ≤ 191 := by
  unfold u8ok lo1 hi1 at h
  simp at h
  obtain ⟨a, b⟩ := h
  constructor <;> (repeat' split at *) <;> omega
theorem u8fits_range (l : List Int) (n : Int) (h : u8fits l n = true) (hl : n ≤ (l.length : Int)) (h4 : n ≤ 4) : ∀ j : Int, 1 ≤ j → j < n → 128 ≤ rd l j ∧ rd l j ≤ 191 := by
  intro j h1 h2
  have hat : u8at l n j = true := by
    unfold u8fits at h
    simp only [Bool.and_eq_true] at h
    have : j = 1 ∨ j = 2 ∨ j = 3 := by omega
    rcases this with rfl | rfl | rfl
    · exact h.1
    · exact h.2.1
    · exact h.2.2
  unfold u8at at hat
  rw [show decide (n ≤ j) = false by simp; omega, show decide ((l.length : Int) ≤ j) = false by simp; omega] at hat
  exact u8ok_range l j (by simpa using hat)
theorem utf_Next.calls (A0 : Option Addr) (c0 : Nat) (l0 : List Int) (r1 : Int) (r2 : Int) (r3 : Int) (w : World) (hr0 : Kd.C (Kd.int .u8) w A0 l0.length l0) (hc0 : l0.length ≤ c0) (h : utf_Next.f l0 = some (r1, r2, r3)) :
    Calls Tryz.prog 65 #[.slice A0 l0.length c0] w fun e w' => e = .returned (.tuple #[.int .i32 r1, .int .i64 r2, .int .i64 r3]) ∧ Below w.heap.size w w' := by
  have HR := Aside0.mk hr0
  clear hr0
  unfold utf_Next.f at h
  by_cases hB : l0.all isB = true
  · rw [if_pos hB] at h
    have HBB := Aside0.mk hB
    clear hB
    have H := Option.some.inj h
    clear h
    by_cases hl : l0.length = 0
    · rw [u8next, if_pos hl] at H
      simp only [Prod.mk.injEq] at H
      obtain ⟨rfl, rfl, rfl⟩ := H
      have e0 : ((l0.length : Int) == 0) = true := by simp [hl]
      clear hl
      go_enter Tryz.func65, Tryz.ntmps65
      go_wp2
      go_ret3
      exact ⟨rfl, Below.refl _ _⟩
    · have e0 : ((l0.length : Int) == 0) = false := beq_eq_false_iff_ne.2 (by omega)
      obtain ⟨ad, rfl, h0⟩ := Kd.at_int HR.out 0 (Int.le_refl 0) (show (0 : Int) < (l0.length : Int) by omega)
      have hz : ad.add (0 : Int).toNat = ad := by simp [Addr.add]
      rw [hz] at h0
      clear hz
      have p0 := eq_true (show 0 < l0.length by omega)
      have hm : l0.length ≤ 9223372036854775807 := HR.out.2.1
      have hb := rd_isB HBB.out 0
      rw [u8next, if_neg hl] at H
      have HL := Aside0.mk (show 0 < l0.length by omega)
      clear hl
      have h4 : u8n (rd l0 0) ≤ 4 ∧ 0 ≤ u8n (rd l0 0) := by rcases u8n_cases (rd l0 0) with h | h | h | h | h <;> omega
      have hw := fun W => utf_wanted.calls 2 (rd l0 0) _ W (utf_wanted.spec 0 _)
      have hf := fun W h => utf_fits.calls 5 (some ad) c0 l0 (u8n (rd l0 0)) _ W h hc0 (utf_fits.spec 0 l0 _ HL.out h4.1)
      generalize hbe : rd l0 0 = b at *
      generalize hn : u8n b = n at *
      have HW := Aside0.mk hw
      have HF := Aside0.mk hf
      clear hw hf
      have HN := Aside0.mk hn
      have HBE := Aside0.mk hbe
      clear hn hbe
      by_cases c1 : n = 0
      · subst c1
        simp only [if_true, Prod.mk.injEq] at H
        obtain ⟨rfl, rfl, rfl⟩ := H
        go_enter Tryz.func65, Tryz.ntmps65
        go_wp2_with (go_at_call 92; refine (HW.out _).mono ?_; rintro e w' ⟨rfl, ⟨nd, rfl⟩⟩)
        go_ret3
        exact ⟨rfl, (Drawn0.mk ⟨nd, rfl⟩).below⟩
      · rw [if_neg c1] at H
        have c1' : (n == 0) = false := by simp [c1]
        cases hft : u8fits l0 n with
        | false =>
          rw [hft] at H HF
          simp only [if_true, Prod.mk.injEq] at H
          obtain ⟨rfl, rfl, rfl⟩ := H
          clear c1 hft
          go_enter Tryz.func65, Tryz.ntmps65
          go_wp2_with (first | (go_at_call 92; refine (HW.out _).mono ?_; rintro e w' ⟨rfl, ⟨nd, rfl⟩⟩) | (go_at_call 93; refine (HF.out _ (Kd.C_below HR.out (Drawn0.mk ⟨_, rfl⟩).below)).mono ?_; rintro e w' ⟨rfl, hB2⟩))
          go_ret3
          exact ⟨rfl, (Drawn0.mk ⟨nd, rfl⟩).below.trans (hB2.mono (by simp))⟩
        | true =>
          rw [hft] at H HF
          simp only [Bool.true_eq_false, if_false] at H
          by_cases c2 : (l0.length : Int) < n
          · rw [if_pos c2, Prod.mk.injEq, Prod.mk.injEq] at H
            obtain ⟨rfl, rfl, rfl⟩ := H
            have c2' := decide_eq_true c2
            clear c1 hft c2
            go_enter Tryz.func65, Tryz.ntmps65
            go_wp2_with (first | (go_at_call 92; refine (HW.out _).mono ?_; rintro e w' ⟨rfl, ⟨nd, rfl⟩⟩) | (go_at_call 93; refine (HF.out _ (Kd.C_below HR.out (Drawn0.mk ⟨_, rfl⟩).below)).mono ?_; rintro e w' ⟨rfl, hB2⟩))
            go_ret3
            exact ⟨rfl, (Drawn0.mk ⟨nd, rfl⟩).below.trans (hB2.mono (by simp))⟩
          · rw [if_neg c2, Prod.mk.injEq, Prod.mk.injEq] at H
            obtain ⟨rfl, rfl, rfl⟩ := H
            have c2' : decide ((l0.length : Int) < n) = false := decide_eq_false c2
            have hft' := hft
            clear hft
            have HFT := Aside0.mk hft'
            clear hft'
            go_enter Tryz.func65, Tryz.ntmps65
            go_wp2_with (first | (go_at_call 92; refine (HW.out _).mono ?_; rintro e w' ⟨rfl, ⟨nd, rfl⟩⟩) | (go_at_call 93; refine (HF.out _ (Kd.C_below HR.out (Drawn0.mk ⟨_, rfl⟩).below)).mono ?_; rintro e w' ⟨rfl, hB2⟩))
            have hBw : Below w.heap.size w w' := (Drawn0.mk ⟨nd, rfl⟩).below.trans (hB2.mono (by simp))
            have h0' : w'.cell? ad = some (.int .u8 b) := pw_cell_below hBw h0
            have HR' := Aside0.mk (Kd.C_below HR.out hBw)
            have HB' := Aside0.mk hBw
            have hl := fun W => utf_lead.calls n (utf_lead.v n) W (by unfold utf_lead.f; rw [if_pos h4.2, if_pos h4.1])
            have HLd := Aside0.mk hl
            clear h0 HR hB2 hBw hl
            obtain ⟨i0, hi0, _, hsz, _⟩ := info_parts (show (Tryz.prog.info? 5).map (fun i => (i.zero, i.size, i.bytes)) = some (some (.int .u8 0), 1, 1) by kernel_rfl)
            obtain ⟨A1, hcut, hA, hC1⟩ := print_mid_of (P := Tryz.prog) (Value.int .u8) 0 58 5 .i64 .i64 Tryz.underlying58 hi0 hsz (some ad) c0 l0 1 n (by omega) (by omega) (by omega) hc0
            have HX := Aside0.mk (Kd.C_of_reads (h1 := fun _ => rfl) (hA _ (Kd.reads_of_C HR'.out)))
            clear hA hC1 hi0 hsz HR' HW HF
            have hxl : ((l0.take n.toNat).drop (Int.toNat 1)).length = n.toNat - 1 := by rw [List.length_drop, List.length_take]; simp; omega
            have HXL := Aside0.mk hxl
            clear hxl
            have hxr : ∀ k : Nat, (k : Int) + 1 < n → rd ((l0.take n.toNat).drop (Int.toNat 1)) k = rd l0 ((k : Int) + 1) := by
              intro k hk
              unfold rd
              simp only [List.getD_eq_getElem?_getD, Int.toNat_natCast, Int.toNat_one]
              rw [List.getElem?_drop, List.getElem?_take, if_pos (by omega)]
              congr 2
              omega
            have HXR := Aside0.mk hxr
            clear hxr
            have hcr := u8fits_range l0 n HFT.out (by omega) h4.1
            have HCR := Aside0.mk hcr
            clear hcr
            have hbase := u8_base b hb.1 hb.2 (by rw [HN.out]; exact c1)
            rw [HN.out] at hbase
            have HBase := Aside0.mk hbase
            clear hbase
            obtain ⟨xs, hxs⟩ : ∃ xs, xs = (l0.take n.toNat).drop (Int.toNat 1) := ⟨_, rfl⟩
            rw [← hxs] at hcut HX HXL HXR
            clear hxs c1 c1' c2' e0 hc0
            go_quiet ((go_at_call 94; refine (HLd.out _).mono ?_; rintro e w' ⟨rfl, ⟨nd, rfl⟩⟩; exact ⟨rfl, _, World.drewN_drewN _ _ _⟩))
            go_wp2
            have hv0 : Value.int .i32 (Go.bits .andNot .i32 b (utf_lead.v n)) = .int .i32 (u8acc l0 n 0) := by
              have := HBase.out.1
              rw [show wrap32 b = b by unfold wrap32; omega] at this
              rw [this, u8acc, HBE.out]
            have HV0 := Aside0.mk hv0
            clear hv0
            go_loop [6, 41] (fun r i => ∃ k : Nat, k ≤ xs.length ∧ i = .int .i64 k ∧ r = .int .i32 (u8acc l0 n k)) (fun _ i => xs.length - (intOf i).toNat)
            case atStart => exact ⟨0, by omega, rfl, HV0.out⟩
            case round =>
              obtain ⟨k, hk, rfl, rfl⟩ := hrel
              have hx := HXL.out
              by_cases hlt : k < xs.length
              · have hR := HCR.out ((k : Int) + 1) (by omega) (by omega)
                have hA := u8acc_bd l0 n k (by omega) (by rw [HBE.out]; exact HBase.out.2.1) (by rw [HBE.out]; exact HBase.out.2.2.2 (by omega)) (fun j h1 h2 => HCR.out j h1 (by omega))
                have hA2 : u8acc l0 n k < 1048576 := by
                  have : k = 0 ∨ k = 1 ∨ k = 2 := by omega
                  rcases this with rfl | rfl | rfl <;> simp at hA <;> omega
                obtain ⟨ad2, rfl, hc2⟩ := Kd.at_int HX.out (k : Int) (by omega) (by omega)
                rw [HXR.out k (by omega)] at hc2
                have hc3 : (w'.drewN nq).cell? (ad2.add k) = some (.int .u8 (rd l0 ((k : Int) + 1))) := by simpa using hc2
                have hst := u8_step (u8acc l0 n k) (rd l0 ((k : Int) + 1)) hA.1 hA2 hR.1 hR.2
                have HST := Aside0.mk hst
                clear hst hc2 hA2 hx
                go_wp2
                have hw1 : wrap64 ((k : Int) + 1) = ((k + 1 : Nat) : Int) := by have := HXL.out; unfold wrap64; omega
                have hst := HST.out
                rw [show wrap32 (rd l0 ((k : Int) + 1)) = rd l0 ((k : Int) + 1) by unfold wrap32; omega] at hst
                rw [hw1, hst]
                exact ⟨⟨k + 1, by omega, rfl, rfl⟩, by simp [intOf]; omega⟩
              · go_wp2
                go_ret3
                have hke : k = n.toNat - 1 := by omega
                subst hke
                exact ⟨rfl, pw_below_drewN HB'.out _⟩
  · rw [if_neg hB] at h
    exact absurd h (by simp)
end Go.Proofs.YtbcgailnhgknnaaGreatDoor.PLabelParse
end
section
namespace Go.Proofs.YtbcgailnhgknnaaGreatDoor.PLabelParse
open Go.Proofs.YtbcgailnhgknnaaGreatDoorU8 Go.RowKit Go.Proofs.YtbcgailnhgknnaaGreatDoorW.PrintWords Go.Proofs.YtbcgailnhgknnaaGreatDoorW.PrintLast Go.Proofs.YtbcgailnhgknnaaGreatDoorW.PrintMore
attribute [local go_sem] max2_int min2_int max_two min_two max_three min_three max_four min_four   -- for this text's walks alone
set_option linter.unusedVariables false
set_option linter.unusedSimpArgs false
def utf_walk.f (a0 : ByteArray) : Option (Int × Int) := if a0.size ≤ 9223372036854775807 then some (u8walk (bytesOf a0)) else none
set_option maxHeartbeats 1000000 in
theorem utf_walk.calls (a0 : ByteArray) (r1 : Int) (r2 : Int) (w : World) (h : utf_walk.f a0 = some (r1, r2)) :
    Calls Tryz.prog 48 #[.string a0] w fun e w' => e = .returned (.tuple #[.int .i64 r1, .int .i64 r2]) ∧ Below w.heap.size w w' := by
  unfold utf_walk.f at h
  by_cases hm : a0.size ≤ 9223372036854775807
  · rw [if_pos hm] at h
    have H := Aside0.mk (Option.some.inj h)
    clear h
    obtain ⟨A, c, W, hconv, hc, hB, hC⟩ := conv_bytes (P := Tryz.prog) 9 58 5 Tryz.underlying9 Tryz.underlying58 Tryz.underlying5 a0 hm w
    have HB := Aside0.mk hB
    have HC := Aside0.mk hC
    have hl : (bytesOf a0).length ≤ 9223372036854775807 := by rw [bytesOf_length]; exact hm
    have HI := Aside0.mk (bytesOf_isB a0)
    clear hB hC hm
    generalize bytesOf a0 = l at *
    obtain ⟨i0, hi0, _, hsz, _⟩ := info_parts (show (Tryz.prog.info? 5).map (fun i => (i.zero, i.size, i.bytes)) = some (some (.int .u8 0), 1, 1) by kernel_rfl)
    have HI0 := Aside0.mk hi0
    have HSZ := Aside0.mk hsz
    have HCC := Aside0.mk hc
    clear hi0 hsz hc
    go_enter Tryz.func48, Tryz.ntmps48
    go_wp2
    clear hconv
    go_loopw [5, 6] (fun at_ rn wr => ∃ i n : Nat, i ≤ l.length ∧ n ≤ i ∧ at_ = .int .i64 i ∧ rn = .int .i64 n ∧ Aside0 (u8walk l = ((n : Int) + (u8walk (l.drop i)).1, (i : Int) + (u8walk (l.drop i)).2)) ∧ Aside0 (Below W.heap.size W wr)) (fun at_ _ _ => l.length - (intOf at_).toNat)
    case atStart => exact ⟨0, 0, Nat.zero_le _, Nat.le_refl _, rfl, rfl, ⟨by simp⟩, ⟨Below.refl _ _⟩⟩
    case round =>
      obtain ⟨i, n, hi, hni, rfl, rfl, HW, HBw⟩ := hrel
      by_cases hlt : i < l.length
      · obtain ⟨A', hcut, hA', hC'⟩ := print_drop_of (P := Tryz.prog) (Value.int .u8) 0 58 5 .i64 Tryz.underlying58 HI0.out HSZ.out A c l (i : Int) (by omega) (by omega) HCC.out
        have HX := Aside0.mk (Kd.C_of_reads (h1 := fun _ => rfl) (hA' _ (Kd.reads_of_C (Kd.C_below HC.out HBw.out))))
        have HN := Aside0.mk (fun Wx hr => utf_Next.calls A' (c - (i : Int).toNat) (l.drop (i : Int).toNat) _ _ _ Wx hr hC' (by unfold utf_Next.f; rw [if_pos (drop_isB HI.out _)]))
        clear hA' hC'
        simp only [Int.toNat_natCast] at hcut HX HN
        have hdl : (l.drop i).length = l.length - i := List.length_drop
        have HDL := Aside0.mk hdl
        clear hdl
        have HS := Aside0.mk (@u8walk_step (l.drop i))
        have HE := Aside0.mk (@u8walk_end (l.drop i))
        have HO := Aside0.mk (@u8next_ok (l.drop i))
        have hdd : ∀ k : Nat, (l.drop i).drop k = l.drop (i + k) := fun k => by rw [List.drop_drop]
        have HDD := Aside0.mk hdd
        clear hdd
        generalize hxe : l.drop i = xs at *
        clear hxe
        generalize hue : u8next xs = u at *
        clear hue
        obtain ⟨u1, u2, u3⟩ := u
        simp only at HN HS HE HO
        by_cases he : u3 = 0
        · subst he
          go_wp2_with (go_at_call 65; refine (HN.out _ HX.out).mono ?_; rintro e w' ⟨rfl, hB2⟩)
          have ho := HO.out trivial
          have hx := HDL.out
          have hl' := HX.out.2.1
          obtain ⟨m, rfl⟩ := Int.eq_ofNat_of_zero_le (show 0 ≤ u2 by omega)
          have hw := HW.out
          rw [HS.out trivial] at hw
          simp only [Int.toNat_natCast, HDD.out] at hw
          rw [show wrap64 ((i : Int) + (m : Int)) = ((i + m : Nat) : Int) by unfold wrap64; omega]
          refine ⟨⟨i + m, n + 1, by omega, by omega, rfl, by go_num, ⟨?_⟩, ⟨HBw.out.trans (hB2.mono HBw.out.size)⟩⟩, by simp [intOf]; omega⟩
          rw [hw, Prod.mk.injEq]
          constructor <;> omega
        · have he' : (u3 != 0) = true := by simp [he]
          clear he
          go_wp2_with (go_at_call 65; refine (HN.out _ HX.out).mono ?_; rintro e w' ⟨rfl, hB2⟩)
          go_ret2
          have hw := HW.out
          rw [HE.out (by simpa using he')] at hw
          have H2 := H.out
          rw [hw] at H2
          simp only [Int.add_zero, Prod.mk.injEq] at H2
          obtain ⟨rfl, rfl⟩ := H2
          exact ⟨rfl, HB.out.trans ((HBw.out.trans (hB2.mono HBw.out.size)).mono HB.out.size)⟩
      · have hie : i = l.length := by omega
        go_wp2
        go_ret2
        have hw := HW.out
        rw [hie, List.drop_length, show u8walk ([] : List Int) = (0, 0) by decide] at hw
        have H2 := H.out
        rw [hw] at H2
        simp only [Int.add_zero, Prod.mk.injEq] at H2
        obtain ⟨rfl, rfl⟩ := H2
        exact ⟨by subst hie; rfl, HB.out.trans (HBw.out.mono HB.out.size)⟩
  · rw [if_neg hm] at h
    exact absurd h (by simp)
end Go.Proofs.YtbcgailnhgknnaaGreatDoor.PLabelParse
end
section
namespace Go.Proofs.YtbcgailnhgknnaaGreatDoor.PLabelParse
open Go.Proofs.YtbcgailnhgknnaaGreatDoorU8 Go.RowKit Go.Proofs.YtbcgailnhgknnaaGreatDoorW.PrintWords Go.Proofs.YtbcgailnhgknnaaGreatDoorW.PrintLast Go.Proofs.YtbcgailnhgknnaaGreatDoorW.PrintMore
attribute [local go_sem] max2_int min2_int max_two min_two max_three min_three max_four min_four   -- for this text's walks alone
set_option linter.unusedVariables false
set_option linter.unusedSimpArgs false
def utf_Valid.f (a0 : ByteArray) : Option (Bool) := (utf_walk.f a0).bind fun bt107 => (some (bt107.2 == (a0.size : Int)))
set_option maxHeartbeats 8000000 in
set_option maxRecDepth 100000 in
theorem utf_Valid.calls (a0 : ByteArray) (r : Bool) (w : World) (h : utf_Valid.f a0 = some r) :
    Calls Tryz.prog 26 #[.string a0] w fun e w' => e = .returned (.bool r) ∧ Below w.heap.size w w' := by
  have HB := Aside0.mk (Below.refl w.heap.size w)
  have H : ((utf_walk.f a0).bind fun bt107 => (some (bt107.2 == (a0.size : Int)))) = some r := h
  clear h
  replace H := Option.bind_eq_some_iff.mp H
  obtain ⟨⟨t107, t108⟩, A20, H⟩ := H
  replace H : (some (t108 == (a0.size : Int))) = some r := H
  have A2 := Aside0.mk A20
  clear A20
  obtain rfl := Option.some.inj H
  go_enter Tryz.func26, Tryz.ntmps26
  go_wp2_with (first | ((with_reducible refine gate_callee (f := 48) rfl ?_); refine goesL_ (some 7) rfl rfl Tryz.func48 (by kernel_rfl) rfl #[.string a0] rfl (by (try simp only [List.map_toArray, List.map_cons, List.map_nil]); first | done | rfl | (simp only [List.length_drop, List.length_take]; rfl)) ?_; (with_reducible refine (utf_walk.calls a0 t107 t108 _ A2.out).mono ?_); rintro e w3 ⟨rfl, hb⟩; refine ⟨_, rfl, ?_⟩; have n0_ := Aside0.mk (below_step (by repeat (first | (with_reducible first | exact HB.out | apply below_alloc | apply pw_below_drewN | apply below_drew1) | exact HB.out)) hb); clear HB; have HB := n0_; clear n0_; (try clear hb); (try clear hb2); (try clear hk); (try clear hi)))
  go_ret
  exact ⟨by first | rfl | (simp [errW_none, errW_some] <;> rfl) | (simp [*, errW_none, errW_some] <;> rfl), by repeat (first | (with_reducible first | exact HB.out | apply below_alloc | apply pw_below_drewN | apply below_drew1) | exact HB.out)⟩
end Go.Proofs.YtbcgailnhgknnaaGreatDoor.PLabelParse
end
