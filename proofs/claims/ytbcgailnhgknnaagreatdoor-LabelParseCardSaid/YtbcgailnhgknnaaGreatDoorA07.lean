/- Proved here: what functions on this claim's road compute, each as a contract over the seat's program. Conditions: each theorem's own premises. -/
import Derived.Test.YtbcgailnhgknnaaGreatDoorA01
import Derived.Test.YtbcgailnhgknnaaGreatDoorA03
import Derived.Test.YtbcgailnhgknnaaGreatDoorA04
import Derived.Test.YtbcgailnhgknnaaGreatDoorA05
import Derived.Test.YtbcgailnhgknnaaGreatDoorA06
namespace Go.Proofs.YtbcgailnhgknnaaGreatDoor.PLabelParse
open Go.Proofs.YtbcgailnhgknnaaGreatDoorU8 Go.RowKit Go.Proofs.YtbcgailnhgknnaaGreatDoorW.PrintWords Go.Proofs.YtbcgailnhgknnaaGreatDoorW.PrintLast Go.Proofs.YtbcgailnhgknnaaGreatDoorW.PrintMore
attribute [local go_sem] max2_int min2_int max_two min_two max_three min_three max_four min_four   -- for this text's walks alone
set_option linter.unusedVariables false
set_option linter.unusedSimpArgs false
theorem u8acc_wide (l : List Int) (hb : l.all isB = true) (n : Int) (k : Nat) (hk : k ≤ 3) : -(1000 * 65 ^ k) ≤ u8acc l n k ∧ u8acc l n k ≤ 1000 * 65 ^ k := by
  induction k with
  | zero =>
    have := rd_isB hb 0
    have : 0 ≤ u8lead n ∧ u8lead n ≤ 240 := by unfold u8lead; repeat' split <;> omega
    simp only [u8acc, Int.pow_zero]
    omega
  | succ k ih =>
    have := ih (by omega)
    have := rd_isB hb ((k : Int) + 1)
    have : (0 : Int) < 65 ^ k := Int.pow_pos (by decide)
    simp only [u8acc, Int.pow_succ]
    omega
theorem larumref02_value.loop (l : List Int) (hb : l.all isB = true) (n : Int) (h4 : n ≤ 4) (hl : n ≤ (l.length : Int)) : ∀ (d : Nat) (i : Nat), 1 ≤ i → (i : Int) ≤ n → n - (i : Int) = d → Ev (fun k => larumref02_value.l0 k l n (u8acc l n (i - 1)) i) (u8acc l n (n.toNat - 1)) := by
  intro d
  induction d with
  | zero =>
    intro i h1 h2 h3
    refine Ev.step (f := fun _ => some (u8acc l n (n.toNat - 1))) (fun k => ?_) (Ev.now _)
    simp only [larumref02_value.l0]
    rw [if_neg (by omega)]
    congr 2
    omega
  | succ d ih =>
    intro i h1 h2 h3
    refine Ev.step (fun k => ?_) (ih (i + 1) (by omega) (by omega) (by omega))
    simp only [larumref02_value.l0]
    rw [if_pos (by omega), if_pos (by omega), if_pos (by omega)]
    have hr := rd_isB hb (i : Int)
    obtain ⟨j, rfl⟩ : ∃ j, i = j + 1 := ⟨i - 1, by omega⟩
    have hw := u8acc_wide l hb n j (by omega)
    have hp : (65 : Int) ^ j ≤ 65 ^ 2 := by
      have : j = 0 ∨ j = 1 ∨ j = 2 := by omega
      rcases this with rfl | rfl | rfl <;> decide
    simp only [Nat.add_sub_cancel, u8acc]
    have e1 : wrap64 (64 * u8acc l n j) = 64 * u8acc l n j := by unfold wrap64; omega
    have e2 : wrap64 (rd l ((j + 1 : Nat) : Int)) = rd l ((j : Int) + 1) := by
      have : ((j + 1 : Nat) : Int) = (j : Int) + 1 := by omega
      rw [this] at hr ⊢; unfold wrap64; omega
    have e2' : rd l ((j + 1 : Nat) : Int) = rd l ((j : Int) + 1) := by congr 1
    rw [e2'] at hr
    rw [e1, e2]
    have e3 : wrap64 (64 * u8acc l n j + rd l ((j : Int) + 1)) = 64 * u8acc l n j + rd l ((j : Int) + 1) := by unfold wrap64; omega
    rw [e3]
    have e4 : wrap64 (64 * u8acc l n j + rd l ((j : Int) + 1) - 128) = u8acc l n j * 64 + (rd l ((j : Int) + 1) - 128) := by unfold wrap64; omega
    rw [e4]
    have e5 : wrap64 (((j + 1 : Nat) : Int) + 1) = ((j + 1 + 1 : Nat) : Int) := by unfold wrap64; omega
    rw [e5]
theorem larumref02_value.spec (l : List Int) (hb : l.all isB = true) (n : Int) (h1 : 1 ≤ n) (h4 : n ≤ 4) (hl : n ≤ (l.length : Int)) : Ev (fun k => larumref02_value.f k l n) (u8acc l n (n.toNat - 1)) := by
  refine Ev.congr (f := fun k => larumref02_value.l0 k l n (u8acc l n 0) (1 : Nat)) (fun k => ?_) (larumref02_value.loop l hb n h4 hl (n - 1).toNat 1 (by omega) (by omega) (by omega))
  unfold larumref02_value.f
  rw [if_pos (by omega)]
  simp only [Option.bind_some]
  rw [if_pos (by omega), if_pos (by simp; omega)]
  have : rd [0, 0, 192, 224, 240] n = u8lead n := by
    have : n = 1 ∨ n = 2 ∨ n = 3 ∨ n = 4 := by omega
    rcases this with rfl | rfl | rfl | rfl <;> decide
  rw [this]
  have hr := rd_isB hb 0
  have hd : 0 ≤ u8lead n ∧ u8lead n ≤ 240 := by unfold u8lead; repeat' split <;> omega
  have e1 : wrap64 (rd l 0) = rd l 0 := by unfold wrap64; omega
  have e2 : wrap64 (rd l 0 - u8lead n) = rd l 0 - u8lead n := by unfold wrap64; omega
  rw [e1, e2]
  rfl
def isRune (v : Int) : Bool := decide (0 ≤ v) && (decide (v ≤ 1114111) && (decide (v < 55296) || decide (57343 < v)))
def u8put (v : Int) : List Int := if v < 128 then [v] else if v < 2048 then [192 + v / 64, 128 + v % 64] else if v < 65536 then [224 + v / 4096, 128 + v / 64 % 64, 128 + v % 64] else [240 + v / 262144, 128 + v / 4096 % 64, 128 + v / 64 % 64, 128 + v % 64]
theorem larumref02_Is.spec (v : Int) : larumref02_Is.f v = some (isRune v) := by
  unfold larumref02_Is.f isRune
  by_cases h0 : v ≥ 0
  · by_cases h1 : v ≤ 1114111
    · by_cases h2 : v < 55296
      · simp [h0, h1, h2]
      · simp [h0, h1, h2]
    · simp [h0, h1]
  · simp [h0]
theorem larumref02_Put.spec (v : Int) (h : isRune v = true) : larumref02_Put.f v = some (u8put v) := by
  have hv : 0 ≤ v ∧ v ≤ 1114111 := by unfold isRune at h; simp at h; omega
  unfold larumref02_Put.f u8put
  rw [larumref02_Is.spec, h]
  simp only [Option.bind_some, if_true]
  obtain ⟨m, rfl⟩ := Int.eq_ofNat_of_zero_le hv.1
  have t1 : ∀ b : Int, 0 < b → Int.tdiv (m : Int) b = (m : Int) / b := fun b hb => Int.tdiv_eq_ediv_of_nonneg hv.1
  have t2 : ∀ b : Int, Int.tmod (m : Int) b = (m : Int) % b := fun b => Int.tmod_eq_emod_of_nonneg hv.1
  have t3 : ∀ b : Int, 0 < b → Int.tmod ((m : Int) / b) 64 = (m : Int) / b % 64 := fun b hb => Int.tmod_eq_emod_of_nonneg (Int.ediv_nonneg hv.1 (by omega))
  have w : ∀ x : Int, 0 ≤ x → x ≤ 2000000 → wrap64 x = x := fun x h0 h1 => by unfold wrap64; omega
  have q : ∀ x : Int, 0 ≤ x → x ≤ 255 → wrap64 x % 256 = x := fun x h0 h1 => by unfold wrap64; omega
  generalize (m : Int) = v at *
  by_cases c1 : v < 128
  · rw [if_pos c1, if_pos c1, show v % 256 = v by omega]
  rw [if_neg c1, if_neg c1]
  by_cases c2 : v < 2048
  · rw [if_pos c2, if_pos c2, t1 64 (by omega), t2, w (v / 64) (by omega) (by omega), q _ (by omega) (by omega), q _ (by omega) (by omega)]
  rw [if_neg c2, if_neg c2]
  by_cases c3 : v < 65536
  · rw [if_pos c3, if_pos c3, t1 4096 (by omega), t1 64 (by omega), t2, w (v / 4096) (by omega) (by omega), w (v / 64) (by omega) (by omega), t3 64 (by omega), q _ (by omega) (by omega), q _ (by omega) (by omega), q _ (by omega) (by omega)]
  · rw [if_neg c3, if_neg c3, t1 262144 (by omega), t1 4096 (by omega), t1 64 (by omega), t2, w (v / 262144) (by omega) (by omega), w (v / 4096) (by omega) (by omega), w (v / 64) (by omega) (by omega), t3 64 (by omega), t3 4096 (by omega), q _ (by omega) (by omega), q _ (by omega) (by omega), q _ (by omega) (by omega), q _ (by omega) (by omega)]
theorem isRune_iff (v : Int) : isRune v = true ↔ 0 ≤ v ∧ v ≤ 1114111 ∧ (v < 55296 ∨ 57343 < v) := by unfold isRune; simp
theorem u8ok_iff1 (l : List Int) : u8ok l 1 = true ↔ lo1 (rd l 0) ≤ rd l 1 ∧ rd l 1 ≤ hi1 (rd l 0) := by unfold u8ok; simp
theorem u8ok_iff2 (l : List Int) : u8ok l 2 = true ↔ 128 ≤ rd l 2 ∧ rd l 2 ≤ 191 := by unfold u8ok; simp
theorem u8ok_iff3 (l : List Int) : u8ok l 3 = true ↔ 128 ≤ rd l 3 ∧ rd l 3 ≤ 191 := by unfold u8ok; simp
theorem take_rd1 (l : List Int) (h : 1 ≤ l.length) : l.take 1 = [rd l 0] := by
  match l, h with
  | a :: t, _ => rfl
theorem take_rd2 (l : List Int) (h : 2 ≤ l.length) : l.take 2 = [rd l 0, rd l 1] := by
  match l, h with
  | a :: b :: t, _ => rfl
theorem take_rd3 (l : List Int) (h : 3 ≤ l.length) : l.take 3 = [rd l 0, rd l 1, rd l 2] := by
  match l, h with
  | a :: b :: c :: t, _ => rfl
theorem take_rd4 (l : List Int) (h : 4 ≤ l.length) : l.take 4 = [rd l 0, rd l 1, rd l 2, rd l 3] := by
  match l, h with
  | a :: b :: c :: d :: t, _ => rfl
theorem u8n_is (b n : Int) : u8n b = n ↔ (n = 1 ∧ b < 128) ∨ (n = 2 ∧ 194 ≤ b ∧ b < 224) ∨ (n = 3 ∧ 224 ≤ b ∧ b < 240) ∨ (n = 4 ∧ 240 ≤ b ∧ b < 245) ∨ (n = 0 ∧ 128 ≤ b ∧ (b < 194 ∨ 245 ≤ b)) := by
  unfold u8n
  repeat' split
  all_goals omega
theorem lo1_is (b x : Int) : lo1 b ≤ x ↔ (b = 224 → 160 ≤ x) ∧ (b = 240 → 144 ≤ x) ∧ (b ≠ 224 → b ≠ 240 → 128 ≤ x) := by
  unfold lo1
  repeat' split
  all_goals omega
theorem hi1_is (b x : Int) : x ≤ hi1 b ↔ (b = 237 → x ≤ 159) ∧ (b = 244 → x ≤ 143) ∧ (b ≠ 237 → b ≠ 244 → x ≤ 191) := by
  unfold hi1
  repeat' split
  all_goals omega
theorem u8put_iff (l : List Int) (hb : l.all isB = true) (n : Int) (h1 : 1 ≤ n) (h4 : n ≤ 4) (hl : n ≤ (l.length : Int)) :
    (isRune (u8acc l n (n.toNat - 1)) = true ∧ u8put (u8acc l n (n.toNat - 1)) = l.take n.toNat) ↔ (u8n (rd l 0) = n ∧ u8fits l n = true) := by
  have r0 := rd_isB hb 0
  have r1 := rd_isB hb 1
  have r2 := rd_isB hb 2
  have r3 := rd_isB hb 3
  rw [isRune_iff, u8n_is]
  have hn : n = 1 ∨ n = 2 ∨ n = 3 ∨ n = 4 := by omega
  rcases hn with rfl | rfl | rfl | rfl
  · have ha : u8acc l 1 (Int.toNat 1 - 1) = rd l 0 := by simp [u8acc, u8lead]
    have hf : u8fits l 1 = true := by simp [u8fits, u8at]
    rw [ha, hf, show Int.toNat 1 = 1 from rfl, take_rd1 l (by omega)]
    unfold u8put
    generalize rd l 0 = b0 at *
    repeat' split
    all_goals simp only [List.cons.injEq, and_true, true_and, reduceCtorEq, and_false, false_iff, Int.reduceEq, false_and, or_false, false_or]
    all_goals omega
  · have ha : u8acc l 2 (Int.toNat 2 - 1) = (rd l 0 - 192) * 64 + (rd l 1 - 128) := by simp [u8acc, u8lead]
    have hf : u8fits l 2 = u8ok l 1 := by simp [u8fits, u8at]; omega
    rw [ha, hf, u8ok_iff1, lo1_is, hi1_is, show Int.toNat 2 = 2 from rfl, take_rd2 l (by omega)]
    unfold u8put
    generalize rd l 0 = b0 at *
    generalize rd l 1 = b1 at *
    repeat' split
    all_goals simp only [List.cons.injEq, and_true, true_and, reduceCtorEq, and_false, false_iff, Int.reduceEq, false_and, or_false, false_or]
    all_goals omega
  · have ha : u8acc l 3 (Int.toNat 3 - 1) = ((rd l 0 - 224) * 64 + (rd l 1 - 128)) * 64 + (rd l 2 - 128) := by simp [u8acc, u8lead]
    have hf : u8fits l 3 = true ↔ u8ok l 1 = true ∧ u8ok l 2 = true := by
      have e1 : ¬ ((l.length : Int) ≤ 1) := by omega
      have e2 : ¬ ((l.length : Int) ≤ 2) := by omega
      simp [u8fits, u8at, e1, e2]
    rw [ha, hf, u8ok_iff1, u8ok_iff2, lo1_is, hi1_is, show Int.toNat 3 = 3 from rfl, take_rd3 l (by omega)]
    unfold u8put
    generalize rd l 0 = b0 at *
    generalize rd l 1 = b1 at *
    generalize rd l 2 = b2 at *
    repeat' split
    all_goals simp only [List.cons.injEq, and_true, true_and, reduceCtorEq, and_false, false_iff, Int.reduceEq, false_and, or_false, false_or]
    all_goals omega
  · have ha : u8acc l 4 (Int.toNat 4 - 1) = (((rd l 0 - 240) * 64 + (rd l 1 - 128)) * 64 + (rd l 2 - 128)) * 64 + (rd l 3 - 128) := by simp [u8acc, u8lead]
    have hf : u8fits l 4 = true ↔ u8ok l 1 = true ∧ u8ok l 2 = true ∧ u8ok l 3 = true := by
      have e1 : ¬ ((l.length : Int) ≤ 1) := by omega
      have e2 : ¬ ((l.length : Int) ≤ 2) := by omega
      have e3 : ¬ ((l.length : Int) ≤ 3) := by omega
      simp [u8fits, u8at, e1, e2, e3]
    rw [ha, hf, u8ok_iff1, u8ok_iff2, u8ok_iff3, lo1_is, hi1_is, show Int.toNat 4 = 4 from rfl, take_rd4 l (by omega)]
    unfold u8put
    generalize rd l 0 = b0 at *
    generalize rd l 1 = b1 at *
    generalize rd l 2 = b2 at *
    generalize rd l 3 = b3 at *
    repeat' split
    all_goals simp only [List.cons.injEq, and_true, true_and, reduceCtorEq, and_false, false_iff, Int.reduceEq, false_and, or_false, false_or]
    all_goals omega
theorem larumref02_Begins.l2_ev (l : List Int) (n : Int) (c i : Int) (y : List Int) (hn4 : n ≤ 4) (hc : isB c = true) (h1 : 1 ≤ l.length)
    (hB : ∃ r, Ev (fun k => larumref02_Begins.l1 k l n y (y.length : Int) (wrap64 (i + 1))) r) : ∀ (g : Nat) (x6 : List Int) (x7 : Int), (n - x7).toNat = g → (x6.length : Int) = x7 → x7 ≤ n → 1 ≤ x7 → x6.all isB = true →
    ∃ r, Ev (fun k => larumref02_Begins.l2 k l n c x6 x7 y (y.length : Int) i) r := by
  intro g
  induction g with
  | zero =>
    intro x6 x7 hg hl hle h1' hb
    have hx : x7 = n := by omega
    have hv := larumref02_value.spec x6 hb n (by omega) hn4 (by omega)
    generalize u8acc x6 n (n.toNat - 1) = v at hv
    obtain ⟨r, hr⟩ := hB
    have key : ∀ k, larumref02_Begins.l2 (k + 1) l n c x6 x7 y (y.length : Int) i = (larumref02_value.f k x6 n).bind fun t => if isRune t = true then ((larumref02_Put.f t).bind fun p => if (strOfNums p).toList = (strOfNums x6).toList then some true else larumref02_Begins.l1 k l n y (y.length : Int) (wrap64 (i + 1))) else larumref02_Begins.l1 k l n y (y.length : Int) (wrap64 (i + 1)) := by
      intro k
      simp only [larumref02_Begins.l2, larumref02_Is.spec, Option.bind_some]
      rw [if_neg (by omega)]
    by_cases hr1 : isRune v = true
    · by_cases he : (strOfNums (u8put v)).toList = (strOfNums x6).toList
      · refine ⟨true, Ev.step key (Ev.bind hv ?_)⟩
        refine Ev.congr (fun k => ?_) (Ev.now true)
        rw [if_pos hr1, larumref02_Put.spec v hr1, Option.bind_some, if_pos he]
      · refine ⟨r, Ev.step key (Ev.bind hv ?_)⟩
        refine Ev.congr (fun k => ?_) hr
        rw [if_pos hr1, larumref02_Put.spec v hr1, Option.bind_some, if_neg he]
    · refine ⟨r, Ev.step key (Ev.bind hv ?_)⟩
      refine Ev.congr (fun k => ?_) hr
      rw [if_neg hr1]
  | succ g ih =>
    intro x6 x7 hg hl hle h1' hb
    have hw : wrap64 (x7 + 1) = x7 + 1 := by unfold wrap64; omega
    by_cases he : x7 = (l.length : Int)
    · obtain ⟨r, hr⟩ := ih (x6 ++ [c]) (x7 + 1) (by omega) (by simp; omega) (by omega) (by omega) (by simp [hb, hc])
      refine ⟨r, Ev.step (fun k => ?_) hr⟩
      simp only [larumref02_Begins.l2]
      rw [if_pos (by omega), if_pos he, if_pos (by omega), hw]
    · obtain ⟨r, hr⟩ := ih (x6 ++ [128]) (x7 + 1) (by omega) (by simp; omega) (by omega) (by omega) (by simp [hb]; decide)
      refine ⟨r, Ev.step (fun k => ?_) hr⟩
      simp only [larumref02_Begins.l2]
      rw [if_pos (by omega), if_neg he, if_pos (by omega), hw]
theorem larumref02_Begins.l1_ev (l : List Int) (n : Int) (y : List Int) (hn4 : n ≤ 4) (hy : y.all isB = true) (h1 : 1 ≤ l.length) (hln : (l.length : Int) ≤ n) (hb : l.all isB = true) (hyl : y.length ≤ 100)
    (hA : ∃ r, Ev (fun k => larumref02_Begins.l0 k l (wrap64 (n + 1))) r) : ∀ (g : Nat) (i : Int), ((y.length : Int) - i).toNat = g → 0 ≤ i → i ≤ (y.length : Int) → ∃ r, Ev (fun k => larumref02_Begins.l1 k l n y (y.length : Int) i) r := by
  intro g
  induction g with
  | zero =>
    intro i hg h0 hle
    obtain ⟨r, hr⟩ := hA
    refine ⟨r, Ev.step (fun k => ?_) hr⟩
    simp only [larumref02_Begins.l1]
    rw [if_neg (by omega)]
  | succ g ih =>
    intro i hg h0 hle
    have hw : wrap64 (i + 1) = i + 1 := by unfold wrap64; omega
    have hrd := rd_isB hy i
    obtain ⟨r, hr⟩ := larumref02_Begins.l2_ev l n (rd y i) i y hn4 (by simp [isB]; omega) h1 (by rw [hw]; exact ih (i + 1) (by omega) (by omega) (by omega)) _ l (l.length : Int) rfl rfl hln (by omega) hb
    refine ⟨r, Ev.step (fun k => ?_) hr⟩
    simp only [larumref02_Begins.l1, Option.bind_some, List.nil_append, List.length_nil, Nat.zero_add]
    rw [if_pos (by omega), if_pos (by omega), if_pos (by omega), if_pos (by omega)]
theorem larumref02_Begins.l0_ev (l : List Int) (hb : l.all isB = true) (h1 : 1 ≤ l.length) : ∀ (g : Nat) (n : Int), (5 - n).toNat = g → (l.length : Int) ≤ n → n ≤ 5 → ∃ r, Ev (fun k => larumref02_Begins.l0 k l n) r := by
  intro g
  induction g with
  | zero =>
    intro n hg h0 hle
    refine ⟨false, Ev.step (fun k => ?_) (Ev.now false)⟩
    simp only [larumref02_Begins.l0]
    rw [if_neg (by omega)]
  | succ g ih =>
    intro n hg h0 hle
    have hw : wrap64 (n + 1) = n + 1 := by unfold wrap64; omega
    obtain ⟨r, hr⟩ := larumref02_Begins.l1_ev l n [128, 143, 144, 159, 160, 191] (by omega) (by decide) h1 h0 hb (by decide) (by rw [hw]; exact ih (n + 1) (by omega) (by omega) (by omega)) _ 0 rfl (by omega) (by simp)
    refine ⟨r, Ev.step (fun k => ?_) hr⟩
    simp only [larumref02_Begins.l0, Option.bind_some]
    rw [if_pos (by omega)]
theorem larumref02_Begins.total (l : List Int) (hb : l.all isB = true) (h1 : 1 ≤ l.length) : ∃ r, Ev (fun k => larumref02_Begins.f k l) r := by
  by_cases h3 : (l.length : Int) > 3
  · refine ⟨false, Ev.congr (f := fun k => larumref02_Begins.j0 k l true) (fun k => ?_) (Ev.step (fun k => ?_) (Ev.now false))⟩
    · unfold larumref02_Begins.f
      rw [if_neg (by omega), decide_eq_true h3]
    · simp only [larumref02_Begins.j0, if_true]
  · obtain ⟨r, hr⟩ := larumref02_Begins.l0_ev l hb h1 _ ((l.length : Int) + 1) rfl (by omega) (by omega)
    refine ⟨r, Ev.congr (f := fun k => larumref02_Begins.j0 k l false) (fun k => ?_) (Ev.step (fun k => ?_) hr)⟩
    · unfold larumref02_Begins.f
      rw [if_neg (by omega), decide_eq_false h3]
    · simp only [larumref02_Begins.j0, Bool.false_eq_true, if_false]
      rw [show wrap64 ((l.length : Int) + 1) = (l.length : Int) + 1 by unfold wrap64; omega]
theorem isB_round {l : List Int} (h : l.all isB = true) : (l.map fun n => UInt8.ofNat n.toNat).map (fun u => (u.toNat : Int)) = l := by
  rw [List.map_map]
  refine (List.map_congr_left (g := id) fun x hx => ?_).trans (List.map_id l)
  have := List.all_eq_true.1 h x hx
  simp [isB] at this
  simp only [Function.comp, id, UInt8.toNat_ofNat']
  omega
theorem strOfNums_inj {a b : List Int} (ha : a.all isB = true) (hb : b.all isB = true) : (strOfNums a).toList = (strOfNums b).toList ↔ a = b := by
  constructor
  · intro h
    rw [Lib.strOfNums_toList, Lib.strOfNums_toList] at h
    have := congrArg (List.map (fun u : UInt8 => (u.toNat : Int))) h
    unfold Lib.bytesOf at this
    rw [isB_round ha, isB_round hb] at this
    exact this
  · rintro rfl
    rfl
theorem u8put_isB (v : Int) (h : isRune v = true) : (u8put v).all isB = true := by
  rw [isRune_iff] at h
  unfold u8put
  repeat' split
  all_goals simp [isB]
  all_goals omega
theorem larumref02_Next.l0_ev (l : List Int) (hb : l.all isB = true) (h1 : 1 ≤ l.length) : ∀ (g : Nat) (n : Int), (5 - n).toNat = g → 1 ≤ n → n ≤ 5 → (∀ m : Int, 1 ≤ m → m < n → ¬ (u8n (rd l 0) = m ∧ u8fits l m = true ∧ m ≤ (l.length : Int))) →
    ∃ v k, Ev (fun j => larumref02_Next.l0 j l n) (v, k) ∧ (if (u8next l).2.2 = 0 then v = (u8next l).1 ∧ k = (u8next l).2.1 else v = 0 ∧ k ≤ 0) := by
  intro g
  have hend : ∀ n : Int, (∀ j, larumref02_Next.l0 (j + 1) l n = larumref02_Next.j1 j l n false) → (∀ m : Int, 1 ≤ m → m ≤ 4 → m ≤ (l.length : Int) → ¬ (u8n (rd l 0) = m ∧ u8fits l m = true ∧ m ≤ (l.length : Int))) →
      ∃ v k, Ev (fun j => larumref02_Next.l0 j l n) (v, k) ∧ (if (u8next l).2.2 = 0 then v = (u8next l).1 ∧ k = (u8next l).2.1 else v = 0 ∧ k ≤ 0) := by
    intro n hj hno
    have hne : (u8next l).2.2 ≠ 0 := by
      intro he
      have ho := u8next_ok he
      unfold u8next at he ho
      rw [if_neg (show ¬ l.length = 0 by omega)] at he ho
      by_cases c1 : u8n (rd l 0) = 0
      · rw [if_pos c1] at he; simp at he
      rw [if_neg c1] at he ho
      by_cases c2 : u8fits l (u8n (rd l 0)) = false
      · rw [if_pos c2] at he; simp at he
      rw [if_neg c2] at he ho
      by_cases c3 : (l.length : Int) < u8n (rd l 0)
      · rw [if_pos c3] at he; simp at he
      rw [if_neg c3] at ho
      simp only at ho
      exact hno _ ho.1 ho.2.1 ho.2.2 ⟨rfl, by simpa using c2, ho.2.2⟩
    obtain ⟨r, hr⟩ := larumref02_Begins.total l hb h1
    cases r with
    | true =>
      refine ⟨0, -1, Ev.step hj (Ev.step (f := fun j => (larumref02_Begins.f j l).bind fun t => if t = true then some (0, -1) else some (0, 0)) (fun j => ?_) (Ev.bind hr (Ev.congr (fun j => by simp) (Ev.now _)))), by rw [if_neg hne]; simp⟩
      simp only [larumref02_Next.j1, Bool.false_eq_true, if_false]
    | false =>
      refine ⟨0, 0, Ev.step hj (Ev.step (f := fun j => (larumref02_Begins.f j l).bind fun t => if t = true then some (0, -1) else some (0, 0)) (fun j => ?_) (Ev.bind hr (Ev.congr (fun j => by simp) (Ev.now _)))), by rw [if_neg hne]; simp⟩
      simp only [larumref02_Next.j1, Bool.false_eq_true, if_false]
  induction g with
  | zero =>
    intro n hg hn1 hn5 hno
    refine hend n (fun j => ?_) (fun m a b c => hno m a (by omega))
    simp only [larumref02_Next.l0]
    rw [if_neg (by omega)]
  | succ g ih =>
    intro n hg hn1 hn5 hno
    by_cases hl : n ≤ (l.length : Int)
    · have hw : wrap64 (n + 1) = n + 1 := by unfold wrap64; omega
      have hv := larumref02_value.spec l hb n hn1 (by omega) hl
      have hiff := u8put_iff l hb n hn1 (by omega) hl
      generalize hve : u8acc l n (n.toNat - 1) = v at hv hiff
      have key : ∀ j, larumref02_Next.j1 (j + 1) l n true = (larumref02_value.f j l n).bind fun t => if isRune t = true then ((larumref02_Put.f t).bind fun p => if (strOfNums p).toList = (strOfNums (l.take n.toNat)).toList then some (t, n) else larumref02_Next.l0 j l (wrap64 (n + 1))) else larumref02_Next.l0 j l (wrap64 (n + 1)) := by
        intro j
        have a1 : 0 ≤ n := by omega
        simp only [larumref02_Next.j1, larumref02_Is.spec, Option.bind_some, if_true, a1, hl]
      have hst : ∀ j, larumref02_Next.l0 (j + 1) l n = larumref02_Next.j1 j l n true := by
        intro j
        simp only [larumref02_Next.l0]
        rw [if_pos (by omega), decide_eq_true hl]
      by_cases hok : u8n (rd l 0) = n ∧ u8fits l n = true
      · obtain ⟨hr1, hp⟩ := hiff.2 hok
        refine ⟨v, n, Ev.step hst (Ev.step key (Ev.bind hv (Ev.congr (fun j => ?_) (Ev.now _)))), ?_⟩
        · rw [if_pos hr1, larumref02_Put.spec v hr1, Option.bind_some, if_pos (by rw [hp])]
        · have hu : u8next l = (v, n, 0) := by
            unfold u8next
            rw [hok.1, if_neg (by omega), if_neg (by omega), hok.2, if_neg (by simp), if_neg (by omega), hve]
          rw [hu]
          simp
      · obtain ⟨a, b, hab, hsp⟩ := ih (n + 1) (by omega) (by omega) (by omega) (by
          intro m hm1 hm2 hm3
          by_cases hmn : m = n
          · subst hmn; exact hok ⟨hm3.1, hm3.2.1⟩
          · exact hno m hm1 (by omega) hm3)
        refine ⟨a, b, Ev.step hst (Ev.step key (Ev.bind hv (Ev.congr (fun j => ?_) hab))), hsp⟩
        rw [hw]
        by_cases hr1 : isRune v = true
        · rw [if_pos hr1, larumref02_Put.spec v hr1, Option.bind_some, if_neg]
          intro he
          exact hok (hiff.1 ⟨hr1, (strOfNums_inj (u8put_isB v hr1) (take_isB hb _)).1 he⟩)
        · rw [if_neg hr1]
    · refine hend n (fun j => ?_) (fun m a b c => hno m a (by omega))
      simp only [larumref02_Next.l0]
      rw [if_pos (by omega), decide_eq_false hl]
theorem larumref02_Next.spec (l : List Int) (hb : l.all isB = true) (h1 : 1 ≤ l.length) : ∃ v n, Ev (fun k => larumref02_Next.f k l) (v, n) ∧ (if (u8next l).2.2 = 0 then v = (u8next l).1 ∧ n = (u8next l).2.1 else v = 0 ∧ n ≤ 0) := by
  unfold larumref02_Next.f
  exact larumref02_Next.l0_ev l hb h1 _ 1 rfl (by omega) (by omega) (fun m a b => by omega)
def larumref02_Walk.f (a0 : ByteArray) : Option (Int × Int) := if a0.size ≤ 9223372036854775807 then some (u8walk (bytesOf a0)) else none
theorem bytesOf_from (s : ByteArray) (i : Nat) : bytesOf (s.extract i s.size) = (bytesOf s).drop i := by
  unfold bytesOf
  rw [Lib.extract_to_end, List.map_drop]
set_option maxHeartbeats 1000000 in
set_option maxRecDepth 100000 in
theorem larumref02_Walk.calls (a0 : ByteArray) (r1 : Int) (r2 : Int) (w : World) (h : larumref02_Walk.f a0 = some (r1, r2)) :
    Calls Tryz.prog 42 #[.string a0] w fun e w' => e = .returned (.tuple #[.int .i64 r1, .int .i64 r2]) ∧ Below w.heap.size w w' := by
  unfold larumref02_Walk.f at h
  by_cases hm : a0.size ≤ 9223372036854775807
  · rw [if_pos hm] at h
    have H := Aside0.mk (Option.some.inj h)
    clear h
    have hl : (bytesOf a0).length = a0.size := bytesOf_length a0
    have HI := Aside0.mk (bytesOf_isB a0)
    have HF := Aside0.mk (bytesOf_from a0)
    obtain ⟨l, hle⟩ : ∃ l, l = bytesOf a0 := ⟨_, rfl⟩
    rw [← hle] at H hl HI HF
    clear hle
    have HL := Aside0.mk hl
    clear hl
    go_enter Tryz.func42, Tryz.ntmps42
    go_wp2
    go_loopw [4, 5] (fun at_ rn wr => ∃ i n : Nat, i ≤ a0.size ∧ n ≤ i ∧ at_ = .int .i64 i ∧ rn = .int .i64 n ∧ Aside0 (u8walk l = ((n : Int) + (u8walk (l.drop i)).1, (i : Int) + (u8walk (l.drop i)).2)) ∧ Aside0 (Below w.heap.size w wr)) (fun at_ _ _ => a0.size - (intOf at_).toNat)
    case atStart => exact ⟨0, 0, Nat.zero_le _, Nat.le_refl _, rfl, rfl, ⟨by simp⟩, ⟨Below.refl _ _⟩⟩
    case round =>
      obtain ⟨i, n, hi, hni, rfl, rfl, HW, HBw⟩ := hrel
      by_cases hlt : i < a0.size
      · have hsz : (a0.extract i a0.size).size = a0.size - i := by simp
        obtain ⟨A', c', W', hconv, hc', hB', hC'⟩ := conv_bytes (P := Tryz.prog) 9 58 5 Tryz.underlying9 Tryz.underlying58 Tryz.underlying5 (a0.extract i a0.size) (by omega) wr
        rw [HF.out i] at hconv hc' hC'
        have hdl : (l.drop i).length = a0.size - i := by rw [List.length_drop, HL.out]
        have HB' := Aside0.mk hB'
        have HDL := Aside0.mk hdl
        obtain ⟨v, m, hev, hsp⟩ := larumref02_Next.spec (l.drop i) (drop_isB HI.out i) (by omega)
        obtain ⟨K, hK⟩ := hev.rounds
        have HN := Aside0.mk (larumref02_Next.calls K A' c' (l.drop i) v m W' hC' hc' hK)
        clear hB' hdl hC' hc' hK hev hsz
        have HS := Aside0.mk (@u8walk_step (l.drop i))
        have HE := Aside0.mk (@u8walk_end (l.drop i))
        have HO := Aside0.mk (@u8next_ok (l.drop i))
        have hdd : ∀ k : Nat, (l.drop i).drop k = l.drop (i + k) := fun k => by rw [List.drop_drop]
        have HDD := Aside0.mk hdd
        clear hdd
        generalize hxe : l.drop i = xs at *
        clear hxe
        generalize hue : u8next xs = u at *
        clear hue
        obtain ⟨u1, u2, u3⟩ := u
        simp only at HS HE HO hsp
        by_cases he : u3 = 0
        · rw [if_pos he] at hsp
          obtain ⟨rfl, rfl⟩ := hsp
          subst he
          have ho := HO.out (by simp)
          have hx := HDL.out
          obtain ⟨p, rfl⟩ := Int.eq_ofNat_of_zero_le (show 0 ≤ m by omega)
          have hp0 : decide ((p : Int) ≤ 0) = false := by simp; omega
          clear hx
          go_wp2_with (go_at_call 63; refine HN.out.mono ?_; rintro e w' ⟨rfl, hB2⟩)
          have hx := HDL.out
          have hw := HW.out
          rw [HS.out (by simp)] at hw
          simp only [Int.toNat_natCast, HDD.out] at hw
          rw [show wrap64 ((i : Int) + (p : Int)) = ((i + p : Nat) : Int) by unfold wrap64; omega]
          refine ⟨⟨i + p, n + 1, by omega, by omega, rfl, by go_num, ⟨?_⟩, ⟨HBw.out.trans ((HB'.out.trans (hB2.mono HB'.out.size)).mono HBw.out.size)⟩⟩, by simp [intOf]; omega⟩
          rw [hw, Prod.mk.injEq]
          constructor <;> omega
        · rw [if_neg he] at hsp
          obtain ⟨rfl, hm0⟩ := hsp
          have hp0 : decide (m ≤ 0) = true := by simp [hm0]
          have HE' := Aside0.mk (HE.out he)
          clear he hm0 HE
          go_wp2_with (go_at_call 63; refine HN.out.mono ?_; rintro e w' ⟨rfl, hB2⟩)
          go_ret2
          have hw := HW.out
          rw [HE'.out] at hw
          have H2 := H.out
          rw [hw] at H2
          simp only [Int.add_zero, Prod.mk.injEq] at H2
          obtain ⟨rfl, rfl⟩ := H2
          exact ⟨rfl, HBw.out.trans ((HB'.out.trans (hB2.mono HB'.out.size)).mono HBw.out.size)⟩
      · have hie : i = a0.size := by omega
        have hdl : l.drop i = [] := List.drop_eq_nil_of_le (by have := HL.out; omega)
        have HDL := Aside0.mk hdl
        clear hdl
        go_wp2
        go_ret2
        have hw := HW.out
        rw [HDL.out, show u8walk ([] : List Int) = (0, 0) by decide] at hw
        have H2 := H.out
        rw [hw] at H2
        simp only [Int.add_zero, Prod.mk.injEq] at H2
        obtain ⟨rfl, rfl⟩ := H2
        exact ⟨rfl, HBw.out⟩
  · rw [if_neg hm] at h
    exact absurd h (by simp)
end Go.Proofs.YtbcgailnhgknnaaGreatDoor.PLabelParse
