/- Proved here: what functions on this claim's road compute, each as a contract over the seat's program. Conditions: each theorem's own premises. -/
import Derived.Test.YtbcgailnhgknnaaGreatDoorA02
import Derived.Test.YtbcgailnhgknnaaGreatDoorA08
import Derived.Test.YtbcgailnhgknnaaGreatDoorA09
import Derived.Test.YtbcgailnhgknnaaGreatDoorA10
import Derived.Test.YtbcgailnhgknnaaGreatDoorA11
import Derived.Test.YtbcgailnhgknnaaGreatDoorA01
section
namespace Go.Proofs.YtbcgailnhgknnaaGreatDoor.PLabelParse
open Go.RowKit Go.Proofs.YtbcgailnhgknnaaGreatDoorW.PrintWords Go.Proofs.YtbcgailnhgknnaaGreatDoorW.PrintLast Go.Proofs.YtbcgailnhgknnaaGreatDoorW.PrintMore Go.Proofs.YtbcgailnhgknnaaGreatDoorU8
attribute [local go_sem] max2_int min2_int max_two min_two max_three min_three max_four min_four
set_option linter.unusedVariables false
set_option linter.unusedSimpArgs false
theorem ref_is (c a b : Int) (h0 : 0 ≤ c) (h1 : c ≤ 255) : larumref01_is.f c a b = some (decide (a ≤ c) && decide (c ≤ b)) := by
  unfold larumref01_is.f
  have hw : wrap64 c = c := by unfold wrap64; omega
  rw [hw]
  by_cases h : c ≥ a
  · have h' : a ≤ c := h
    rw [if_pos h]; simp [h']
  · have h' : ¬ a ≤ c := h
    rw [if_neg h]; simp [h']
theorem ref_Letter (c : Int) (h0 : 0 ≤ c) (h1 : c ≤ 255) : larumref01_Letter.f c = some (letterB c) := by
  unfold larumref01_Letter.f letterB
  rw [ref_is c _ _ h0 h1, ref_is c _ _ h0 h1]
  simp only [Option.bind_some]
  cases (decide (65 ≤ c) && decide (c ≤ 90)) <;> simp
theorem ref_Digit (c : Int) (h0 : 0 ≤ c) (h1 : c ≤ 255) : larumref01_Digit.f c = some (digitB c) := by
  unfold larumref01_Digit.f digitB
  rw [ref_is c _ _ h0 h1]
  rfl
theorem inName_eq (c : Int) : inNameB c = (letterB c || digitB c || decide (c = 95)) := rfl
theorem ref_Name_l (s : ByteArray) (hs : s.size ≤ 1073741824) (hd : digitB (bt s 0) = false) (hall : ∀ j, j < s.size → inNameB (bt s (j : Int)) = true) : ∀ (d k i : Nat), i ≤ s.size → s.size - i = d → d < k → larumref14_Name.l0 k s (i : Int) = some (s.toList != ([] : List UInt8)) := by
  intro d
  induction d with
  | zero =>
    intro k i h1 h2 hk
    obtain ⟨k, rfl⟩ : ∃ m, k = m + 1 := ⟨k - 1, by omega⟩
    simp only [larumref14_Name.l0]
    rw [if_neg (by omega)]
  | succ d ih =>
    intro k i h1 h2 hk
    obtain ⟨k, rfl⟩ : ∃ m, k = m + 1 := ⟨k - 1, by omega⟩
    simp only [larumref14_Name.l0]
    have hb := bt_range s (i : Int)
    have hw : wrap64 ((i : Int) + 1) = ((i + 1 : Nat) : Int) := by unfold wrap64; omega
    have ha := hall i (by omega)
    rw [if_pos (by omega), if_pos (by omega), ref_Letter _ hb.1 hb.2, ref_Digit _ hb.1 hb.2, hw]
    simp only [Option.bind_some]
    have hr := ih k (i + 1) (by omega) (by omega) (by omega)
    rw [hr]
    rw [inName_eq] at ha
    cases hl : letterB (bt s (i : Int)) with
    | true => simp
    | false =>
      by_cases h95 : bt s (i : Int) = 95
      · simp [h95]
      · cases hdg : digitB (bt s (i : Int)) with
        | false => simp [hl, hdg, h95] at ha
        | true =>
          have hi0 : ¬ ((i : Int) = 0) := fun e => by
            have : i = 0 := by omega
            subst this
            have hdg' : digitB (bt s 0) = true := hdg
            rw [hd] at hdg'; cases hdg'
          rw [if_neg Bool.false_ne_true, if_neg h95, if_neg hi0]
          rfl
theorem ref_Name (k : Nat) (s : ByteArray) (hs : s.size ≤ 1073741824) (hk : s.size < k) (h : nameB s = true) : larumref14_Name.f k s = some true := by
  unfold nameB at h
  simp only [Bool.and_eq_true, decide_eq_true_eq, Bool.not_eq_true', List.all_eq_true, List.mem_range] at h
  unfold larumref14_Name.f
  have := ref_Name_l s hs h.2.1 h.2.2 s.size k 0 (Nat.zero_le _) rfl hk
  rw [show ((0 : Nat) : Int) = 0 from rfl] at this
  rw [this]
  have hne : ¬ s.toList = [] := fun e => by have := (ba_nil s).1 e; omega
  simp [hne]
theorem ref_value (s : ByteArray) (hs : s.size ≤ 1073741824) (hne : ¬ s.toList = []) (hv : u8valid (bytesOf s) = true) : larumref14_value.f s = some true := by
  unfold larumref14_value.f larumref02_Walk.f
  rw [if_pos (by omega)]
  simp only [Option.bind_some]
  rw [if_neg hne]
  have : ((u8walk (bytesOf s)).2 == (s.size : Int)) = true := by simpa [u8valid, bytesOf_length] using hv
  rw [this]
theorem putHex_small : ∀ c : Fin 32, larumref03_PutHex.f 3 (c.val : Int) = some (if c.val < 16 then ⟨#[hexd c.val]⟩ else ⟨#[49, hexd (c.val - 16)]⟩) := by decide +kernel
theorem putHex_more (k : Nat) (c : Int) (h0 : 0 ≤ c) (h1 : c < 32) : larumref03_PutHex.f (k + 3) c = some (if c < 16 then ⟨#[hexd c]⟩ else ⟨#[49, hexd (c - 16)]⟩) := by
  obtain ⟨n, rfl⟩ := Int.eq_ofNat_of_zero_le h0
  have hm : ∀ m, larumref03_PutHex.f 3 (n : Int) = some m → larumref03_PutHex.f (k + 3) (n : Int) = some m := by
    intro m h
    induction k with
    | zero => simpa using h
    | succ k ih => exact larumref03_PutHex.mono _ _ _ ih
  have := hm _ (putHex_small ⟨n, by omega⟩)
  rw [this]
  by_cases h : n < 16
  · rw [if_pos h, if_pos (by omega)]
  · rw [if_neg h, if_neg (by omega)]
    try congr 3
theorem ba_ext {a b : ByteArray} (h : a.data.toList = b.data.toList) : a = b := by
  obtain ⟨⟨a⟩⟩ := a
  obtain ⟨⟨b⟩⟩ := b
  simp at h
  subst h
  rfl
theorem ba_append (a b : ByteArray) : (a ++ b).data.toList = a.data.toList ++ b.data.toList := by simp
theorem drop_bt (s : ByteArray) (i : Nat) (h : i < s.size) : ∃ c : UInt8, s.data.toList.drop i = c :: s.data.toList.drop (i + 1) ∧ bt s (i : Int) = (c.toNat : Int) ∧ (s.extract i (i + 1)).data.toList = [c] := by
  have h' : i < s.data.toList.length := by simpa using h
  obtain ⟨c, hc, hb⟩ := bt_get s i h
  rw [List.getElem?_eq_getElem h'] at hc
  have hc' : s.data.toList[i] = c := Option.some.inj hc
  refine ⟨c, by rw [List.drop_eq_getElem_cons h', hc'], hb, ?_⟩
  rw [ByteArray.data_extract, Array.toList_extract, List.extract_eq_take_drop, List.drop_eq_getElem_cons h', hc']
  simp
theorem qB_byte (c : UInt8) : ((c.toNat : Int)).toNat.toUInt8 = c := by simp
set_option maxHeartbeats 1000000 in
theorem ref_Quote_l (s : ByteArray) (hs : s.size ≤ 1073741824) : ∀ (d k i : Nat) (out : ByteArray), i ≤ s.size → s.size - i = d → 2 * d + 6 < k → out.size + 6 * d + 1 ≤ 1099511627776 →
    larumref05_Quote.l0 k s out (i : Int) = some ⟨(out.data.toList ++ (qL (s.data.toList.drop i) ++ [34])).toArray⟩ := by
  intro d
  induction d with
  | zero =>
    intro k i out h1 h2 hk ho
    obtain ⟨k, rfl⟩ : ∃ m, k = m + 1 := ⟨k - 1, by omega⟩
    simp only [larumref05_Quote.l0]
    rw [if_neg (by omega), if_pos (by omega)]
    congr 1
    apply ba_ext
    rw [List.drop_eq_nil_of_le (by simp; omega)]
    simp [qL]
  | succ d ih =>
    intro k i out h1 h2 hk ho
    obtain ⟨k, rfl⟩ : ∃ m, k = m + 2 := ⟨k - 2, by omega⟩
    have hb := bt_range s (i : Int)
    have hw : wrap64 ((i : Int) + 1) = ((i + 1 : Nat) : Int) := by unfold wrap64; omega
    obtain ⟨c, hdr, hbt, hex⟩ := drop_bt s i (by omega)
    have hq : qL (s.data.toList.drop i) = qB (c.toNat : Int) ++ qL (s.data.toList.drop (i + 1)) := by rw [hdr]; simp [qL]
    have step : ∀ (j : Nat) (out' : ByteArray), k ≤ j → out'.data.toList = out.data.toList ++ qB (c.toNat : Int) → larumref05_Quote.l0 j s out' ((i + 1 : Nat) : Int) = some ⟨(out.data.toList ++ (qL (s.data.toList.drop i) ++ [34])).toArray⟩ := by
      intro j out' hj he
      have hl : out'.size ≤ out.size + 6 := by
        have h3 := congrArg List.length he
        rw [List.length_append] at h3
        have h4 := qB_len (c.toNat : Int)
        simp only [Array.length_toList] at h3
        show out'.data.size ≤ out.data.size + 6
        omega
      rw [ih j (i + 1) out' (by omega) (by omega) (by omega) (by omega), he, hq]
      simp only [List.append_assoc]
    have j1 : ∀ b : Bool, (b = true ↔ c.toNat = 34 ∨ c.toNat = 92) → ¬ c.toNat = 8 → ¬ c.toNat = 12 → ¬ c.toNat = 10 → ¬ c.toNat = 13 → ¬ c.toNat = 9 → larumref05_Quote.j1 (k + 1) s out (i : Int) (c.toNat : Int) b = some ⟨(out.data.toList ++ (qL (s.data.toList.drop i) ++ [34])).toArray⟩ := by
      intro b hbq n8 n12 n10 n13 n9
      simp only [larumref05_Quote.j1]
      have hxs : (s.extract (i : Int).toNat ((i + 1 : Nat) : Int).toNat).size = 1 := by simp; omega
      have hxd : (s.extract (i : Int).toNat ((i + 1 : Nat) : Int).toNat).data.toList = [c] := by simpa using hex
      rw [hw]
      generalize s.extract (i : Int).toNat ((i + 1 : Nat) : Int).toNat = x at *
      cases b with
      | true =>
        have hc := hbq.1 rfl
        rw [if_pos rfl, if_pos (by omega), if_pos (by omega), if_pos (by omega), if_pos (by omega), if_pos (by rw [ByteArray.size_append, show (⟨#[92]⟩ : ByteArray).size = 1 from rfl]; omega)]
        refine step k _ (Nat.le_refl _) ?_
        rw [ba_append, ba_append, hxd]
        unfold qB
        rw [if_neg (by omega), if_neg (by omega), if_neg (by omega), if_neg (by omega), if_neg (by omega), if_neg (by omega), if_pos (by omega), qB_byte]
        simp
      | false =>
        have hc : ¬ (c.toNat = 34 ∨ c.toNat = 92) := fun h => by have := hbq.2 h; cases this
        rw [if_neg Bool.false_ne_true]
        have hwc : wrap64 (c.toNat : Int) = (c.toNat : Int) := by unfold wrap64; omega
        rw [hwc]
        obtain ⟨k3, rfl⟩ : ∃ m, k = m + 3 := ⟨k - 3, by omega⟩
        by_cases c16 : (c.toNat : Int) < 16
        · rw [if_pos c16, if_pos (by omega), putHex_more k3 _ (by omega) (by omega), if_pos c16]
          simp only [Option.bind_some]
          rw [if_pos (by rw [ByteArray.size_append, show (⟨#[92, 117, 48, 48, 48]⟩ : ByteArray).size = 5 from rfl, show (⟨#[hexd (c.toNat : Int)]⟩ : ByteArray).size = 1 from rfl]; omega)]
          refine step _ _ (Nat.le_refl _) ?_
          rw [ba_append, ba_append]
          unfold qB
          rw [if_neg (by omega), if_neg (by omega), if_neg (by omega), if_neg (by omega), if_neg (by omega), if_pos (by omega), show (c.toNat : Int) / 16 = 0 by omega, show (c.toNat : Int) % 16 = (c.toNat : Int) by omega]
          simp [show hexd 0 = 48 from rfl]
        · rw [if_neg c16]
          by_cases c32 : (c.toNat : Int) < 32
          · rw [if_pos c32, if_pos (by omega), putHex_more k3 _ (by omega) (by omega), if_neg c16]
            simp only [Option.bind_some]
            rw [if_pos (by rw [ByteArray.size_append, show (⟨#[92, 117, 48, 48]⟩ : ByteArray).size = 4 from rfl, show (⟨#[49, hexd ((c.toNat : Int) - 16)]⟩ : ByteArray).size = 2 from rfl]; omega)]
            refine step _ _ (Nat.le_refl _) ?_
            rw [ba_append, ba_append]
            unfold qB
            rw [if_neg (by omega), if_neg (by omega), if_neg (by omega), if_neg (by omega), if_neg (by omega), if_pos (by omega), show (c.toNat : Int) / 16 = 1 by omega, show (c.toNat : Int) % 16 = (c.toNat : Int) - 16 by omega]
            simp [show hexd 1 = 49 from rfl]
          · rw [if_neg c32, if_pos (by omega), if_pos (by omega), if_pos (by omega), if_pos (by omega)]
            refine step _ _ (Nat.le_refl _) ?_
            rw [ba_append, hxd]
            unfold qB
            rw [if_neg (by omega), if_neg (by omega), if_neg (by omega), if_neg (by omega), if_neg (by omega), if_neg (by omega), if_neg (by omega), qB_byte]
    have two : ∀ (y : UInt8) (n : Nat), qB (c.toNat : Int) = [92, y] → larumref05_Quote.l0 (k + 1) s (out ++ (⟨#[92, y]⟩ : ByteArray)) (wrap64 ((i : Int) + 1)) = some ⟨(out.data.toList ++ (qL (s.data.toList.drop i) ++ [34])).toArray⟩ := by
      intro y n hy
      rw [hw]
      refine step _ _ (by omega) ?_
      rw [ba_append, hy]
    show larumref05_Quote.l0 (k + 1 + 1) s out (i : Int) = _
    rw [larumref05_Quote.l0]
    rw [if_pos (by omega), if_pos (by omega), hbt]
    by_cases n8 : c.toNat = 8
    · rw [if_pos (by omega), if_pos (by omega)]; exact two _ 0 (by simp [qB, n8])
    rw [if_neg (by omega)]
    by_cases n12 : c.toNat = 12
    · rw [if_pos (by omega), if_pos (by omega)]; exact two _ 0 (by simp [qB, n12])
    rw [if_neg (by omega)]
    by_cases n10 : c.toNat = 10
    · rw [if_pos (by omega), if_pos (by omega)]; exact two _ 0 (by simp [qB, n10])
    rw [if_neg (by omega)]
    by_cases n13 : c.toNat = 13
    · rw [if_pos (by omega), if_pos (by omega)]; exact two _ 0 (by simp [qB, n13])
    rw [if_neg (by omega)]
    by_cases n9 : c.toNat = 9
    · rw [if_pos (by omega), if_pos (by omega)]; exact two _ 0 (by simp [qB, n9])
    rw [if_neg (by omega)]
    by_cases n34 : c.toNat = 34
    · rw [if_pos (by omega)]
      exact j1 _ (by simp [n34]) n8 n12 n10 n13 n9
    · rw [if_neg (by omega)]
      refine j1 _ ?_ n8 n12 n10 n13 n9
      rw [beq_iff_eq]
      omega
theorem ref_Quote (k : Nat) (s : ByteArray) (hs : s.size ≤ 1073741824) (hk : 2 * s.size + 6 < k) : larumref05_Quote.f k s = some (quoteS s) := by
  unfold larumref05_Quote.f
  have := ref_Quote_l s hs s.size k 0 ⟨#[34]⟩ (Nat.zero_le _) rfl hk (by rw [show (⟨#[34]⟩ : ByteArray).size = 1 from rfl]; omega)
  rw [show ((0 : Nat) : Int) = 0 from rfl] at this
  rw [this]
  congr 1
end Go.Proofs.YtbcgailnhgknnaaGreatDoor.PLabelParse
end
section
namespace Go.Proofs.YtbcgailnhgknnaaGreatDoor.PLabelParse
open Go.Proofs.YtbcgailnhgknnaaGreatDoorU8 Go.RowKit Go.Proofs.YtbcgailnhgknnaaGreatDoorW.PrintWords Go.Proofs.YtbcgailnhgknnaaGreatDoorW.PrintLast Go.Proofs.YtbcgailnhgknnaaGreatDoorW.PrintMore
attribute [local go_sem] max2_int min2_int max_two min_two max_three min_three max_four min_four   -- for this text's walks alone
set_option linter.unusedVariables false
set_option linter.unusedSimpArgs false
theorem eqA48 (d : Nat) (w : World) (x0 y0 : ByteArray) (x1 y1 : ByteArray) :
    (Op.equalIn (d + 2) 48 (.agg #[.string x0, .string x1]) (.agg #[.string y0, .string y1])).run Tryz.prog w = .ok (x0.toList == y0.toList && (x1.toList == y1.toList)) w := by
  refine eqA_of Tryz.underlying48 (by kernel_rfl) ?_
  refine eqf_cons (by rfl) (by go_simp; rfl) (by go_simp; rfl) (by go_simp) ?_
  exact eqf_last (by rfl) (by go_simp; rfl) (by go_simp; rfl) (by go_simp)
end Go.Proofs.YtbcgailnhgknnaaGreatDoor.PLabelParse
end
section
namespace Go.Proofs.YtbcgailnhgknnaaGreatDoor.PLabelParse
open Go.Proofs.YtbcgailnhgknnaaGreatDoorU8 Go.RowKit Go.Proofs.YtbcgailnhgknnaaGreatDoorW.PrintWords Go.Proofs.YtbcgailnhgknnaaGreatDoorW.PrintLast Go.Proofs.YtbcgailnhgknnaaGreatDoorW.PrintMore
attribute [local go_sem] max2_int min2_int max_two min_two max_three min_three max_four min_four   -- for this text's walks alone
set_option linter.unusedVariables false
set_option linter.unusedSimpArgs false
attribute [local go_sem high] eqA48
def larumref14_Same.l0 : Nat → List (S48) → List (S48) → Int → Int → Option (Bool)
  | 0, _, _, _, _ => none
  | k + 1, x0, x1, x12, x13 => if x13 < x12 then (if 0 ≤ x13 then (if x13 < (x0.length : Int) then (if x13 < (x1.length : Int) then (if (!((((rd_T48 x0 x13).f0).toList) == (((rd_T48 x1 x13).f0).toList)) || (!((((rd_T48 x0 x13).f1).toList) == (((rd_T48 x1 x13).f1).toList)))) = true then (some false) else (larumref14_Same.l0 k x0 x1 x12 (wrap64 (x13 + 1)))) else (none)) else (none)) else (none)) else (some true)
def larumref14_Same.f (k : Nat) (l0 : List (S48)) (l1 : List (S48)) : Option (Bool) := if (l0.length : Int) = (l1.length : Int) then (larumref14_Same.l0 k l0 l1 (l0.length : Int) 0) else (some false)
theorem larumref14_Same.mono_l : ∀ k, (∀ y0 y1 y2 y3, LeO (larumref14_Same.l0 k y0 y1 y2 y3) (larumref14_Same.l0 (k + 1) y0 y1 y2 y3))
  | 0 => fun _ _ _ _ r h => by simp [larumref14_Same.l0] at h
  | k + 1 => by
    have ih0 := larumref14_Same.mono_l k
    · intro y0 y1 y2 y3
      unfold larumref14_Same.l0
      repeat' first
      | (with_reducible exact ih0 _ _ _ _)
      | (with_reducible exact LeO.refl _)
      | (with_reducible exact LeO.none _)
      | (with_reducible refine LeO.ite ?_ ?_)
      | (with_reducible refine LeO.bind ?_ (fun _ => ?_))
      | exact ih0 _ _ _ _
      | exact LeO.none _
      | refine LeO.ite ?_ ?_
      | refine LeO.bind ?_ (fun _ => ?_)
theorem larumref14_Same.mono : ∀ a0 a1 k, LeO (larumref14_Same.f k a0 a1) (larumref14_Same.f (k + 1) a0 a1) := by
  intro a0 a1 k
  have ih0 := larumref14_Same.mono_l k
  unfold larumref14_Same.f
  repeat' first
      | (with_reducible exact ih0 _ _ _ _)
      | (with_reducible exact LeO.refl _)
      | (with_reducible exact LeO.none _)
      | (with_reducible refine LeO.ite ?_ ?_)
      | (with_reducible refine LeO.bind ?_ (fun _ => ?_))
      | exact ih0 _ _ _ _
      | exact LeO.none _
      | refine LeO.ite ?_ ?_
      | refine LeO.bind ?_ (fun _ => ?_)
set_option maxHeartbeats 8000000 in
set_option maxRecDepth 100000 in
theorem larumref14_Same.calls (k : Nat) (A0 : Option Addr) (c0 : Nat) (l0 : List (S48)) (A1 : Option Addr) (c1 : Nat) (l1 : List (S48)) (r : Bool) (w : World) (hr0 : Kd.C k48 w A0 l0.length l0) (hc0 : l0.length ≤ c0) (hr1 : Kd.C k48 w A1 l1.length l1) (hc1 : l1.length ≤ c1) (h : larumref14_Same.f k l0 l1 = some r) :
    Calls Tryz.prog 10 #[.slice A0 l0.length c0, .slice A1 l1.length c1] w fun e w' => e = .returned (.bool r) ∧ Drawn0 w w' := by
  have hu48 := Tryz.underlying48
  have HR0 := Aside0.mk hr0
  have HC0 := Aside0.mk hc0
  clear hr0 hc0
  have HR1 := Aside0.mk hr1
  have HC1 := Aside0.mk hc1
  clear hr1 hc1
  have H : (if (l0.length : Int) = (l1.length : Int) then (larumref14_Same.l0 k l0 l1 (l0.length : Int) 0) else (some false)) = some r := h
  clear h
  by_cases c3 : (l0.length : Int) = (l1.length : Int)
  · rw [if_pos c3] at H
    have c3b0 : ((l0.length : Int) == (l1.length : Int)) = true := beq_iff_eq.mpr c3
    have c3b1 : ((l0.length : Int) != (l1.length : Int)) = false := bne_eq_false_iff_eq.mpr c3
    have c3b2 : (l0.length == l1.length) = true := by first | simpa using c3 | (simp at c3 ⊢; omega)
    clear c3
    have H' := Aside0.mk H
    clear H
    go_enter Tryz.func10, Tryz.ntmps10
    go_wp2
    repeat (go_quiet (fail); try go_wp2)
    go_loopg [13] k (fun kq v13 w' => ∃ (x13_1 : Int), v13 = .int .i64 x13_1 ∧ Aside0 (larumref14_Same.l0 kq l0 l1 (l0.length : Int) x13_1 = some r) ∧ Aside0 (kq ≤ k) ∧ Drawn0 w w')
    case atStart => exact ⟨(0), (by first | rfl | (simp; done) | (simp [*]; done)), H', ⟨Nat.le_refl _⟩, by repeat (first | exact Drawn0.refl _ | apply Drawn0.step)⟩
    case round =>
      clear H'
      try clear c1
      try clear p2
      try clear c3
      try clear c3b0
      try clear c3b1
      try clear c3b2
      obtain ⟨x13_1, rfl, HA, HK1, ⟨m1, rfl⟩⟩ := hrel
      cases gk with
      | zero => exact absurd HA.out (by simp [larumref14_Same.l0])
      | succ k1 =>
        have H := HA.out
        clear HA
        simp only [larumref14_Same.l0] at H
        by_cases c4 : x13_1 < (l0.length : Int)
        · rw [if_pos c4] at H
          have c4b0 : decide (x13_1 < (l0.length : Int)) = true := decide_eq_true c4
          clear c4
          by_cases c5 : 0 ≤ x13_1
          · rw [if_pos c5] at H
            have c5b0 : decide (0 ≤ x13_1) = true := decide_eq_true c5
            clear c5
            by_cases c6 : x13_1 < (l0.length : Int)
            · rw [if_pos c6] at H
              have c6b0 : decide (x13_1 < (l0.length : Int)) = true := decide_eq_true c6
              clear c6
              by_cases c7 : x13_1 < (l1.length : Int)
              · rw [if_pos c7] at H
                have c7b0 : decide (x13_1 < (l1.length : Int)) = true := decide_eq_true c7
                clear c7
                by_cases c8 : (!((((rd_T48 l0 x13_1).f0).toList) == (((rd_T48 l1 x13_1).f0).toList)) || (!((((rd_T48 l0 x13_1).f1).toList) == (((rd_T48 l1 x13_1).f1).toList)))) = true
                · rw [if_pos c8] at H
                  have c8b0 : (!((((rd_T48 l0 x13_1).f0).toList) == (((rd_T48 l1 x13_1).f0).toList)) || (!((((rd_T48 l0 x13_1).f1).toList) == (((rd_T48 l1 x13_1).f1).toList)))) = true := c8
                  clear c8
                  obtain rfl := Option.some.inj H
                  have p240 : 0 ≤ (x13_1 : Int) := of_decide_eq_true (by first | (with_reducible assumption) | assumption)
                  have q240 : x13_1 < (l0.length : Int) := of_decide_eq_true (by first | (with_reducible assumption) | assumption)
                  obtain ⟨ad240, e240, hx240_0, hx240_1⟩ := at_T48 HR0.out x13_1 p240 q240
                  cases e240
                  replace p240 := eq_true p240
                  replace q240 := eq_true q240
                  have p241 : 0 ≤ (x13_1 : Int) := of_decide_eq_true (by first | (with_reducible assumption) | assumption)
                  have q241 : x13_1 < (l1.length : Int) := of_decide_eq_true (by first | (with_reducible assumption) | assumption)
                  obtain ⟨ad241, e241, hx241_0, hx241_1⟩ := at_T48 HR1.out x13_1 p241 q241
                  cases e241
                  replace p241 := eq_true p241
                  replace q241 := eq_true q241
                  go_wp2
                  repeat (go_quiet (fail); try go_wp2)
                  go_ret
                  exact ⟨by first | rfl | (simp; done) | (simp [*]; done) | (simp [wrap64]; omega) | (refine congrArg (fun b_ => Ending.returned (Value.bool b_)) ?_; generalize ByteArray.toList _ = l_; cases l_ <;> rfl), by repeat (first | exact Drawn0.refl _ | apply Drawn0.step)⟩
                · rw [if_neg c8] at H
                  have c8b0 : (!((((rd_T48 l0 x13_1).f0).toList) == (((rd_T48 l1 x13_1).f0).toList)) || (!((((rd_T48 l0 x13_1).f1).toList) == (((rd_T48 l1 x13_1).f1).toList)))) = false := by simpa using c8
                  clear c8
                  have H' := Aside0.mk H
                  clear H
                  have p240 : 0 ≤ (x13_1 : Int) := of_decide_eq_true (by first | (with_reducible assumption) | assumption)
                  have q240 : x13_1 < (l0.length : Int) := of_decide_eq_true (by first | (with_reducible assumption) | assumption)
                  obtain ⟨ad240, e240, hx240_0, hx240_1⟩ := at_T48 HR0.out x13_1 p240 q240
                  cases e240
                  replace p240 := eq_true p240
                  replace q240 := eq_true q240
                  have p241 : 0 ≤ (x13_1 : Int) := of_decide_eq_true (by first | (with_reducible assumption) | assumption)
                  have q241 : x13_1 < (l1.length : Int) := of_decide_eq_true (by first | (with_reducible assumption) | assumption)
                  obtain ⟨ad241, e241, hx241_0, hx241_1⟩ := at_T48 HR1.out x13_1 p241 q241
                  cases e241
                  replace p241 := eq_true p241
                  replace q241 := eq_true q241
                  go_wp2
                  repeat (go_quiet (fail); try go_wp2)
                  go_roundg k1
                  case measure => have := HK1.out; omega
                  case rel => exact ⟨(wrap64 (x13_1 + 1)), (by first | rfl | (simp; done) | (simp [*]; done)), H', ⟨by have := HK1.out; omega⟩, by repeat (first | exact Drawn0.refl _ | apply Drawn0.step)⟩
              · rw [if_neg c7] at H
                exact absurd H (by simp)
            · rw [if_neg c6] at H
              exact absurd H (by simp)
          · rw [if_neg c5] at H
            exact absurd H (by simp)
        · rw [if_neg c4] at H
          have c4b0 : decide (x13_1 < (l0.length : Int)) = false := decide_eq_false c4
          clear c4
          obtain rfl := Option.some.inj H
          go_wp2
          repeat (go_quiet (fail); try go_wp2)
          go_ret
          exact ⟨by first | rfl | (simp; done) | (simp [*]; done) | (simp [wrap64]; omega) | (refine congrArg (fun b_ => Ending.returned (Value.bool b_)) ?_; generalize ByteArray.toList _ = l_; cases l_ <;> rfl), by repeat (first | exact Drawn0.refl _ | apply Drawn0.step)⟩
  · rw [if_neg c3] at H
    have c3b0 : ((l0.length : Int) == (l1.length : Int)) = false := beq_eq_false_iff_ne.mpr c3
    have c3b1 : ((l0.length : Int) != (l1.length : Int)) = true := bne_iff_ne.mpr c3
    have c3b2 : (l0.length == l1.length) = false := by first | simpa using c3 | (simp at c3 ⊢; omega)
    obtain rfl := Option.some.inj H
    go_enter Tryz.func10, Tryz.ntmps10
    go_wp2
    repeat (go_quiet (fail); try go_wp2)
    go_ret
    exact ⟨by first | rfl | (simp; done) | (simp [*]; done) | (simp [wrap64]; omega) | (refine congrArg (fun b_ => Ending.returned (Value.bool b_)) ?_; generalize ByteArray.toList _ = l_; cases l_ <;> rfl), by repeat (first | exact Drawn0.refl _ | apply Drawn0.step)⟩
end Go.Proofs.YtbcgailnhgknnaaGreatDoor.PLabelParse
end
