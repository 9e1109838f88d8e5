/- Proved here: what functions on this claim's road compute, each as a contract over the seat's program. Conditions: each theorem's own premises. -/
import Derived.Test.YtbcgailnhgknnaaGreatDoorA12
import Derived.Test.YtbcgailnhgknnaaGreatDoorA13
import Derived.Test.YtbcgailnhgknnaaGreatDoorA15
import Derived.Test.YtbcgailnhgknnaaGreatDoorA37
import Derived.Test.YtbcgailnhgknnaaGreatDoorA11
import Derived.Test.YtbcgailnhgknnaaGreatDoorA31
import Derived.Test.YtbcgailnhgknnaaGreatDoorA32
import Derived.Test.YtbcgailnhgknnaaGreatDoorA33
import Derived.Test.YtbcgailnhgknnaaGreatDoorA34
import Derived.Test.YtbcgailnhgknnaaGreatDoorA28
section
namespace Go.Proofs.YtbcgailnhgknnaaGreatDoor.PLabelParse
open Go.RowKit Go.Proofs.YtbcgailnhgknnaaGreatDoorW.PrintWords Go.Proofs.YtbcgailnhgknnaaGreatDoorW.PrintLast Go.Proofs.YtbcgailnhgknnaaGreatDoorW.PrintMore Go.Proofs.YtbcgailnhgknnaaGreatDoorU8
attribute [local go_sem] max2_int min2_int max_two min_two max_three min_three max_four min_four
set_option linter.unusedVariables false
set_option linter.unusedSimpArgs false
def prR (x : S48) : ByteArray × ByteArray := (x.f0, x.f1)
theorem rd_at (l : List S48) (i : Nat) (h : i < l.length) : rd_T48 l (i : Int) = l[i] := by
  unfold rd_T48
  rw [Int.toNat_natCast, List.getD_eq_getElem?_getD, List.getElem?_eq_getElem h]
  rfl
theorem ref_Same (l : List S48) (hl : l.length ≤ 1073741824) : ∀ (d k i : Nat), i ≤ l.length → l.length - i = d → d < k → larumref14_Same.l0 k l l (l.length : Int) (i : Int) = some true := by
  intro d
  induction d with
  | zero =>
    intro k i h1 h2 hk
    obtain ⟨k, rfl⟩ : ∃ m, k = m + 1 := ⟨k - 1, by omega⟩
    simp only [larumref14_Same.l0]
    rw [if_neg (by omega)]
  | succ d ih =>
    intro k i h1 h2 hk
    obtain ⟨k, rfl⟩ : ∃ m, k = m + 1 := ⟨k - 1, by omega⟩
    simp only [larumref14_Same.l0]
    have hw : wrap64 ((i : Int) + 1) = ((i + 1 : Nat) : Int) := by unfold wrap64; omega
    rw [if_pos (by omega), if_pos (by omega), if_pos (by omega), if_pos (by omega), if_neg (by simp), hw]
    exact ih k (i + 1) (by omega) (by omega) (by omega)
theorem ref_Same_f (k : Nat) (l : List S48) (hl : l.length ≤ 1073741824) (hk : l.length < k) : larumref14_Same.f k l l = some true := by
  unfold larumref14_Same.f
  rw [if_pos rfl]
  exact ref_Same l hl l.length k 0 (Nat.zero_le _) rfl hk
set_option maxHeartbeats 1000000 in
theorem ref_Text_l (M : Nat) (hM : M ≤ 1073741824) (l : List S48) (hl : l.length ≤ 1073741824) (hx : ∀ x ∈ l, x.f1.size ≤ M) : ∀ (d k i : Nat) (out : ByteArray), i ≤ l.length → l.length - i = d → d + 2 * M + 6 < k → out.size + (bodyF (decide (i = 0)) ((l.drop i).map prR)).length + 1 ≤ 1099511627776 →
    larumref14_Text.l0 k out l (l.length : Int) (i : Int) = some ⟨(out.data.toList ++ (bodyF (decide (i = 0)) ((l.drop i).map prR) ++ [125])).toArray⟩ := by
  intro d
  induction d with
  | zero =>
    intro k i out h1 h2 hk ho
    obtain ⟨k, rfl⟩ : ∃ m, k = m + 1 := ⟨k - 1, by omega⟩
    simp only [larumref14_Text.l0]
    rw [if_neg (by omega), if_pos (by omega)]
    congr 1
    apply ba_ext
    rw [List.drop_eq_nil_of_le (by omega)]
    simp [bodyF]
  | succ d ih =>
    intro k i out h1 h2 hk ho
    obtain ⟨k, rfl⟩ : ∃ m, k = m + 1 := ⟨k - 1, by omega⟩
    have hi : i < l.length := by omega
    simp only [larumref14_Text.l0]
    have hw : wrap64 ((i : Int) + 1) = ((i + 1 : Nat) : Int) := by unfold wrap64; omega
    have hq : larumref05_Quote.f k l[i].f1 = some (quoteS l[i].f1) := ref_Quote k _ (by have := hx l[i] (List.getElem_mem hi); omega) (by have := hx l[i] (List.getElem_mem hi); omega)
    have hdr : (l.drop i).map prR = prR l[i] :: (l.drop (i + 1)).map prR := by rw [List.drop_eq_getElem_cons hi]; rfl
    have hqd : (quoteS l[i].f1).data.toList = quoteL l[i].f1.data.toList := by simp [quoteS]
    have hqs : (quoteS l[i].f1).size = (quoteL l[i].f1.data.toList).length := by simp [quoteS, ByteArray.size]
    have hits : (itemL (prR l[i])).length = l[i].f0.size + 1 + (quoteS l[i].f1).size := by rw [hqs]; simp [itemL, prR]; omega
    have hitl : itemL (prR l[i]) = l[i].f0.data.toList ++ (61 :: quoteL l[i].f1.data.toList) := rfl
    rw [hdr] at ho ⊢
    simp only [bodyF, List.length_append] at ho ⊢
    rw [rd_at l i hi, hw, if_pos (by omega), if_pos (by omega), if_pos (by omega), hq]
    generalize l[i] = x at *
    have hnx : decide (i + 1 = 0) = false := by simp
    have step : ∀ out' : ByteArray, out'.data.toList = out.data.toList ++ ((if decide (i = 0) = true then [] else [44]) ++ itemL (prR x)) →
        larumref14_Text.l0 k out' l (l.length : Int) ((i + 1 : Nat) : Int) = some ⟨(out.data.toList ++ ((if decide (i = 0) = true then [] else [44]) ++ (itemL (prR x) ++ bodyF false ((l.drop (i + 1)).map prR)) ++ [125])).toArray⟩ := by
      intro out' he
      have hl' : out'.size = out.size + ((if decide (i = 0) = true then ([] : List UInt8) else [44]).length + (itemL (prR x)).length) := by
        have := congrArg List.length he
        simp only [List.length_append, Array.length_toList] at this
        exact this
      have := ih k (i + 1) out' (by omega) (by omega) (by omega) (by rw [hnx]; omega)
      rw [this, hnx, he]
      simp only [List.append_assoc]
    by_cases h0 : i = 0
    · subst h0
      rw [if_neg (by omega)]
      simp only [decide_true, if_true, List.length_nil] at ho
      rw [if_pos (by omega), if_pos (by rw [ByteArray.size_append]; omega)]
      simp only [Option.bind_some]
      rw [if_pos (by rw [ByteArray.size_append, ByteArray.size_append, show (⟨#[61]⟩ : ByteArray).size = 1 from rfl]; omega)]
      refine step _ ?_
      rw [ba_append, ba_append, ba_append, hqd, hitl]
      simp
    · rw [if_pos (by omega)]
      simp only [h0, decide_false, Bool.false_eq_true, if_false, List.length_cons, List.length_nil] at ho
      rw [if_pos (by omega), if_pos (by rw [ByteArray.size_append, show (⟨#[44]⟩ : ByteArray).size = 1 from rfl]; omega), if_pos (by rw [ByteArray.size_append, ByteArray.size_append, show (⟨#[44]⟩ : ByteArray).size = 1 from rfl]; omega)]
      simp only [Option.bind_some]
      rw [if_pos (by rw [ByteArray.size_append, ByteArray.size_append, ByteArray.size_append, show (⟨#[44]⟩ : ByteArray).size = 1 from rfl, show (⟨#[61]⟩ : ByteArray).size = 1 from rfl]; omega)]
      refine step _ ?_
      rw [ba_append, ba_append, ba_append, ba_append, hqd, hitl]
      simp [h0]
theorem ref_Text (k M : Nat) (hM : M ≤ 1073741824) (ps : PS) (hl : ps.length ≤ 1073741824) (hx : ∀ x ∈ ps, x.2.size ≤ M) (ht : (textL ps).length ≤ 1099511627776) (hk : ps.length + 2 * M + 6 < k) : larumref14_Text.f k (toR ps) = some (textS ps) := by
  unfold larumref14_Text.f
  have hlen : (toR ps).length = ps.length := by simp [toR]
  have hmap : (toR ps).map prR = ps := toR_back ps
  have := ref_Text_l M hM (toR ps) (by rw [hlen]; exact hl) (by
    intro x hx'
    unfold toR at hx'
    obtain ⟨y, hy, rfl⟩ := List.mem_map.1 hx'
    exact hx y hy) (toR ps).length k 0 ⟨#[123]⟩ (Nat.zero_le _) rfl (by rw [hlen]; exact hk) (by
    rw [List.drop_zero, hmap, show (⟨#[123]⟩ : ByteArray).size = 1 from rfl]
    unfold textL at ht
    simp only [List.length_cons, List.length_append, List.length_nil] at ht
    simp only [decide_true]
    omega)
  rw [show ((0 : Nat) : Int) = 0 from rfl] at this
  rw [this, List.drop_zero, hmap]
  congr 1
set_option maxHeartbeats 1000000 in
theorem ref_Of_l (M : Nat) (hM : M ≤ 1073741824) (l : List S48) (hl : l.length ≤ 1073741824) (hx : ∀ x ∈ l, x.f0.size ≤ M ∧ x.f1.size ≤ M ∧ badP (prR x) = false) (hs : (l.map prR).Pairwise fun x y => ltN x y = true) :
    ∀ (d k i : Nat), i ≤ l.length → l.length - i = d → 3 * d + M + 3 < k → larumref14_Of.l0 k (l.take i) false l (l.length : Int) (i : Int) = some (l, 0) := by
  intro d
  induction d with
  | zero =>
    intro k i h1 h2 hk
    obtain ⟨k, rfl⟩ : ∃ m, k = m + 1 := ⟨k - 1, by omega⟩
    rw [larumref14_Of.l0]
    rw [if_neg (by omega), if_neg Bool.false_ne_true, List.take_of_length_le (by omega)]
  | succ d ih =>
    intro k i h1 h2 hk
    obtain ⟨k, rfl⟩ : ∃ m, k = m + 3 := ⟨k - 3, by omega⟩
    have hi : i < l.length := by omega
    obtain ⟨hx0, hx1, hxb⟩ := hx l[i] (List.getElem_mem hi)
    unfold badP prR at hxb
    simp only [Bool.or_eq_false_iff, Bool.not_eq_false', beq_eq_false_iff_ne, ne_eq] at hxb
    have hn := ref_Name (k + 2) l[i].f0 (by omega) (by omega) hxb.1
    have hv := ref_value l[i].f1 (by omega) hxb.2.1 hxb.2.2
    have hw : wrap64 ((i : Int) + 1) = ((i + 1 : Nat) : Int) := by unfold wrap64; omega
    have htl : (l.take i).length = i := by rw [List.length_take]; omega
    have htk : l.take (i + 1) = l.take i ++ [l[i]] := List.take_succ_eq_append_getElem hi
    have fin : larumref14_Of.l0 k (([] ++ (l.take i).take ((i : Int)).toNat) ++ [(⟨l[i].f0, l[i].f1⟩ : S48)] ++ (l.take i).drop ((i : Int)).toNat) false l (l.length : Int) (wrap64 ((i : Int) + 1)) = some (l, 0) := by
      rw [hw, Int.toNat_natCast, List.take_of_length_le (by omega), List.drop_eq_nil_of_le (by omega), List.nil_append, List.append_nil]
      have : (⟨l[i].f0, l[i].f1⟩ : S48) = l[i] := rfl
      rw [this, ← htk]
      exact ih k (i + 1) (by omega) (by omega) (by omega)
    show larumref14_Of.l0 (k + 2 + 1) _ _ _ _ _ = _
    rw [larumref14_Of.l0]
    rw [if_pos (by omega), if_pos (by omega), if_pos (by omega), rd_at l i hi, hn]
    simp only [Option.bind_some, if_true]
    rw [hv]
    simp only [Option.bind_some, Bool.not_true]
    show larumref14_Of.j1 (k + 1 + 1) _ _ _ _ _ _ _ _ = _
    rw [larumref14_Of.j1]
    rw [if_neg Bool.false_ne_true, larumref14_Of.l1, htl]
    by_cases h0 : i = 0
    · subst h0
      rw [if_neg (by omega)]
      simp only [Option.bind_some]
      rw [if_pos (by omega), if_pos (by omega), if_pos (by simp), if_pos (by simp), if_pos (by simp)]
      exact fin
    · have hw2 : wrap64 ((i : Int) - 1) = ((i - 1 : Nat) : Int) := by unfold wrap64; omega
      rw [if_pos (by omega), hw2, if_pos (by omega), if_pos (by omega), rd_at _ (i - 1) (by omega)]
      have hlt : Op.bytesLess ((l.take i)[i - 1]'(by omega)).f0.toList l[i].f0.toList = true := by
        have := List.pairwise_iff_getElem.1 hs (i - 1) i (by simp; omega) (by simp; omega) (by omega)
        rw [bytesLess_eq]
        simpa [ltN, nm, prR] using this
      rw [if_pos hlt]
      simp only [Option.bind_some]
      rw [if_pos (by omega), if_pos (by omega), if_pos (by simp; omega), if_pos (by simp; omega), if_pos (by simp; omega)]
      exact fin
theorem ref_Of (k M : Nat) (hM : M ≤ 1073741824) (ps : PS) (hl : ps.length ≤ 1073741824) (hx : ∀ x ∈ ps, x.1.size ≤ M ∧ x.2.size ≤ M) (h0 : ofE ps = 0) (hk : 3 * ps.length + M + 3 < k) : larumref14_Of.f k (toR (ofL ps)) = some (toR (ofL ps), 0) := by
  unfold ofE at h0
  split at h0
  · cases h0
  rename_i hb
  split at h0
  · cases h0
  rename_i hd
  have hb' : ps.any badP = false := by simpa using hb
  have hd' : dupP (sortP ps) = false := by simpa using hd
  have hoL : ofL ps = sortP ps := by unfold ofL; rw [hb', hd']; rfl
  rw [hoL]
  have hpl : (sortP ps).length = ps.length := (sortP_perm ps).length_eq
  have hlen : (toR (sortP ps)).length = ps.length := by simp [toR, hpl]
  have hmap : (toR (sortP ps)).map prR = sortP ps := toR_back _
  unfold larumref14_Of.f
  have := ref_Of_l M hM (toR (sortP ps)) (by rw [hlen]; exact hl) (by
    intro x hx'
    unfold toR at hx'
    obtain ⟨y, hy, rfl⟩ := List.mem_map.1 hx'
    have hy' := (sortP_perm ps).mem_iff.1 hy
    have h3 := hx y hy'
    rw [List.any_eq_false] at hb'
    exact ⟨h3.1, h3.2, by simpa [prR] using hb' y hy'⟩) (by rw [hmap]; exact strict_of (sortP_asc ps) hd') (toR (sortP ps)).length k 0 (Nat.zero_le _) rfl (by rw [hlen]; exact hk)
  simpa using this
end Go.Proofs.YtbcgailnhgknnaaGreatDoor.PLabelParse
end
section
namespace Go.Proofs.YtbcgailnhgknnaaGreatDoor.PLabelParse
open Go.RowKit Go.Proofs.YtbcgailnhgknnaaGreatDoorW.PrintWords Go.Proofs.YtbcgailnhgknnaaGreatDoorW.PrintLast Go.Proofs.YtbcgailnhgknnaaGreatDoorW.PrintMore Go.Proofs.YtbcgailnhgknnaaGreatDoorU8
attribute [local go_sem] max2_int min2_int max_two min_two max_three min_three max_four min_four
set_option linter.unusedVariables false
set_option linter.unusedSimpArgs false
theorem num_hex.total (k : Nat) (hk : 2 ≤ k) (c : Int) (h0 : 0 ≤ c) (h1 : c ≤ 255) : ∃ d, num_hex.f k c = some d ∧ -1 ≤ d ∧ d ≤ 15 := by
  obtain ⟨k, rfl⟩ : ∃ m, k = m + 2 := ⟨k - 2, by omega⟩
  unfold num_hex.f
  simp only [num_hex.j0, num_hex.j1, chars_Digit.f]
  by_cases a1 : c ≥ 65 <;> by_cases a2 : c ≤ 70 <;> by_cases a3 : c ≥ 97 <;> by_cases a4 : c ≤ 102 <;> by_cases a5 : c ≥ 48 <;> by_cases a6 : c ≤ 57 <;> simp only [a1, a2, a3, a4, a5, a6, decide_true, decide_false, if_true, if_false, Option.bind_some, ge_iff_le, Bool.false_eq_true] <;> first | omega | exact ⟨_, rfl, by unfold wrap64; omega, by unfold wrap64; omega⟩ | exact ⟨_, rfl, by omega, by omega⟩
theorem num_Hex.l0_total (s : ByteArray) (hs : s.size ≤ 1099511627776) : ∀ (d k : Nat) (v : Int) (b : Bool) (i : Int), 0 ≤ i → i ≤ s.size → (s.size : Int) - i = d → d + 2 < k → ∃ r, num_Hex.l0 k s v b (s.size : Int) i = some r := by
  intro d
  induction d with
  | zero =>
    intro k v b i h0 h1 hd hk
    obtain ⟨k, rfl⟩ : ∃ m, k = m + 1 := ⟨k - 1, by omega⟩
    simp only [num_Hex.l0]
    rw [if_neg (by omega)]
    (repeat' split) <;> exact ⟨_, rfl⟩
  | succ d ih =>
    intro k v b i h0 h1 hd hk
    obtain ⟨k, rfl⟩ : ∃ m, k = m + 1 := ⟨k - 1, by omega⟩
    simp only [num_Hex.l0]
    have hbt := bt_range s i
    obtain ⟨t, ht, _⟩ := num_hex.total k (by omega) (bt s i) hbt.1 hbt.2
    rw [if_pos (by omega), if_pos h0, if_pos (by omega), ht]
    simp only [Option.bind_some]
    have hw : wrap64 (i + 1) = i + 1 := by unfold wrap64; omega
    rw [hw]
    (repeat' split) <;> first | exact ⟨_, rfl⟩ | exact ih k _ _ (i + 1) (by omega) (by omega) (by omega) (by omega)
theorem num_Hex.total (k : Nat) (s : ByteArray) (hs : s.size ≤ 1099511627776) (hk : s.size + 2 < k) : ∃ r, num_Hex.f k s = some r := by
  unfold num_Hex.f
  exact num_Hex.l0_total s hs s.size k 0 false 0 (by omega) (by omega) (by omega) hk
theorem jtok_four.total (k : Nat) (s : ByteArray) (hs : s.size ≤ 1099511627776) (i : Nat) (hi : i ≤ s.size) (hk : s.size + 6 < k) : ∃ r, jtok_four.f k s (i : Int) = some r ∧ (r.2 = true → i + 4 ≤ s.size) := by
  unfold jtok_four.f
  have h1 : wrap64 ((s.size : Int) - (i : Int)) = (s.size : Int) - i := by unfold wrap64; omega
  have h2 : wrap64 ((i : Int) + 4) = (i : Int) + 4 := by unfold wrap64; omega
  rw [h1, h2]
  by_cases h : (s.size : Int) - i < 4
  · rw [if_pos h]; exact ⟨_, rfl, by simp⟩
  · rw [if_neg h, if_pos (by omega), if_pos (by omega), if_pos (by omega)]
    obtain ⟨r, hr⟩ := num_Hex.total k (s.extract (i : Int).toNat ((i : Int) + 4).toNat) (by simp; omega) (by simp; omega)
    rw [hr]
    exact ⟨_, rfl, fun _ => by omega⟩
theorem utf_Pair.total (a b : Int) : ∃ r, utf_Pair.f a b = some r := by
  unfold utf_Pair.f
  (repeat' split) <;> exact ⟨_, rfl⟩
theorem utf_lead.total (n : Int) (h0 : 0 ≤ n) (h1 : n ≤ 4) : ∃ r, utf_lead.f n = some r := by
  unfold utf_lead.f
  rw [if_pos h0, if_pos h1]
  exact ⟨_, rfl⟩
theorem utf_Put.l0_total (x4 : Int) (h0 : 1 ≤ x4) (h4 : x4 ≤ 4) : ∀ (d k : Nat) (x0 : Int) (x5 : List Int) (x6 : Int), 0 ≤ x6 → x6 < (x5.length : Int) → x6 = d → d < k → (x5.length : Int) = x4 → ∃ r, utf_Put.l0 k x0 x4 x5 x6 = some r ∧ (r.1.length : Int) = x4 := by
  intro d
  induction d with
  | zero =>
    intro k x0 x5 x6 a b c hk hl
    obtain ⟨k, rfl⟩ : ∃ m, k = m + 1 := ⟨k - 1, by omega⟩
    simp only [utf_Put.l0]
    obtain ⟨r, hr⟩ := utf_lead.total x4 (by omega) h4
    rw [if_neg (by omega), hr]
    simp only [Option.bind_some]
    rw [if_pos (by omega)]
    exact ⟨_, rfl, by simp [hl]⟩
  | succ d ih =>
    intro k x0 x5 x6 a b c hk hl
    obtain ⟨k, rfl⟩ : ∃ m, k = m + 1 := ⟨k - 1, by omega⟩
    simp only [utf_Put.l0]
    have hw : wrap64 (x6 - 1) = x6 - 1 := by unfold wrap64; omega
    rw [if_pos (by omega), if_pos (by omega), if_pos (by omega), hw]
    exact ih k _ _ _ (by omega) (by simp; omega) (by omega) (by omega) (by simp [hl])
theorem utf_Put.total (k : Nat) (r : Int) (hk : 5 ≤ k) : ∃ q, utf_Put.f k r = some q ∧ (q.2 = 0 → 1 ≤ q.1.length ∧ q.1.length ≤ 4) := by
  unfold utf_Put.f utf_is.f
  by_cases hb : ∃ b, (if r ≥ 0 then (if r ≤ 1114111 then (if r < 55296 then some true else some (decide (r ≥ 57344))) else some false) else some false) = some b
  · obtain ⟨b, hb⟩ := hb
    rw [hb]
    simp only [Option.bind_some]
    cases b with
    | false => exact ⟨_, rfl, by simp⟩
    | true =>
      simp only [if_true]
      have hw : ∃ n, utf_width.f r = some n ∧ 1 ≤ n ∧ n ≤ 4 := by
        unfold utf_width.f
        (repeat' split) <;> exact ⟨_, rfl, by omega, by omega⟩
      obtain ⟨n, hn, h1, h4⟩ := hw
      rw [hn]
      simp only [Option.bind_some]
      rw [if_pos (by omega), if_pos (by omega)]
      have hwr : wrap64 (n - 1) = n - 1 := by unfold wrap64; omega
      rw [hwr]
      obtain ⟨q, hq, hl⟩ := utf_Put.l0_total n h1 h4 (n - 1).toNat k r (List.replicate n.toNat 0) (n - 1) (by omega) (by simp; omega) (by omega) (by omega) (by simp; omega)
      exact ⟨q, hq, fun _ => by omega⟩
  · exact absurd (by (repeat' split) <;> exact ⟨_, rfl⟩) hb
theorem hasPrefix.total (a b : ByteArray) : ∃ r, strings_HasPrefix.f a b = some r ∧ (r = true → b.size ≤ a.size) := by
  unfold strings_HasPrefix.f stringslite_HasPrefix.f
  by_cases h : (a.size : Int) ≥ (b.size : Int)
  · rw [if_pos h, if_pos (by omega), if_pos h]
    exact ⟨_, rfl, fun _ => by omega⟩
  · rw [if_neg h]
    exact ⟨_, rfl, by simp⟩
theorem jtok_put.total (k : Nat) (r at_ : Int) (hk : 5 ≤ k) : ∃ q, jtok_put.f k r at_ = some q ∧ q.2.1 = at_ ∧ (q.2.2 = 0 ∨ q.2.2 = 3) ∧ q.1.length ≤ 4 := by
  unfold jtok_put.f
  obtain ⟨q, hq, hl⟩ := utf_Put.total k r hk
  rw [hq]
  simp only [Option.bind_some]
  split
  · rename_i h; exact ⟨_, rfl, rfl, Or.inl rfl, (hl h).2⟩
  · exact ⟨_, rfl, rfl, Or.inr rfl, by simp⟩
theorem jtok_coded.total (k : Nat) (s : ByteArray) (hs : s.size ≤ 1099511627776) (i : Nat) (hi : i ≤ s.size) (hk : s.size + 6 < k) : ∃ q, jtok_coded.f k s i = some q ∧ (q.2.2 = 0 ∨ q.2.2 = 3) ∧ (q.2.2 = 0 → (i : Int) + 4 ≤ q.2.1 ∧ q.2.1 ≤ s.size ∧ q.1.length ≤ 4) := by
  unfold jtok_coded.f
  obtain ⟨⟨r, ok⟩, h4, hb⟩ := jtok_four.total k s hs i hi hk
  rw [h4]
  simp only [Option.bind_some]
  cases ok with
  | false => exact ⟨_, rfl, Or.inr rfl, by simp⟩
  | true =>
    have hb4 := hb rfl
    simp only [Bool.true_eq_false, if_false]
    rw [if_pos hb4]
    obtain ⟨p, hp, hpl⟩ := hasPrefix.total (s.extract (i + 4) s.size) ⟨#[92, 117]⟩
    rw [hp]
    simp only [Option.bind_some]
    have hput : ∀ r' : Int, ∀ j : Nat, i + 4 ≤ j → j ≤ s.size → ∃ q, jtok_put.f k r' (j : Int) = some q ∧ (q.2.2 = 0 ∨ q.2.2 = 3) ∧ (q.2.2 = 0 → (i : Int) + 4 ≤ q.2.1 ∧ q.2.1 ≤ s.size ∧ q.1.length ≤ 4) := by
      intro r' j hj hj2
      obtain ⟨q, hq, h1, h2, h3⟩ := jtok_put.total k r' (j : Int) (by omega)
      exact ⟨q, hq, h2, fun _ => ⟨by rw [h1]; omega, by rw [h1]; omega, h3⟩⟩
    cases p with
    | false =>
      simp only [Bool.false_eq_true, if_false]
      exact hput r (i + 4) (Nat.le_refl _) hb4
    | true =>
      simp only [if_true]
      have h6 : i + 4 + 2 ≤ s.size := by
        have := hpl rfl
        simp only [show (⟨#[92, 117]⟩ : ByteArray).size = 2 from rfl] at this
        simp at this
        omega
      obtain ⟨⟨r2, ok2⟩, h42, hb2⟩ := jtok_four.total k s hs (i + 4 + 2) h6 hk
      have e42 : ((i + 4 + 2 : Nat) : Int) = (i : Int) + 4 + 2 := by omega
      rw [e42] at h42
      rw [h42]
      simp only [Option.bind_some]
      obtain ⟨⟨p2, both⟩, hpa⟩ := utf_Pair.total r r2
      rw [hpa]
      simp only [Option.bind_some]
      split
      · rename_i h
        have := hb2 h.1
        exact hput p2 (i + 4 + 6) (by omega) (by omega)
      · exact hput r (i + 4) (Nat.le_refl _) hb4
theorem jtok_escaped.total (k : Nat) (s : ByteArray) (hs : s.size ≤ 1099511627776) (i : Nat) (hi : i ≤ s.size) (hk : s.size + 6 < k) : ∃ q, jtok_escaped.f k s i = some q ∧ (q.2.2 = 0 ∨ q.2.2 = 3) ∧ (q.2.2 = 0 → (i : Int) + 1 ≤ q.2.1 ∧ q.2.1 ≤ s.size ∧ (q.1.length : Int) ≤ q.2.1 - i) := by
  unfold jtok_escaped.f
  split
  · rename_i h
    split
    · obtain ⟨q, hq, h1, h2⟩ := jtok_coded.total k s hs (i + 1) (by omega) hk
      exact ⟨q, hq, h1, fun h => by have := h2 h; omega⟩
    · split
      · exact ⟨_, rfl, Or.inl rfl, fun _ => by simp; omega⟩
      · exact ⟨_, rfl, Or.inr rfl, by simp⟩
  · exact ⟨_, rfl, Or.inr rfl, by simp⟩
end Go.Proofs.YtbcgailnhgknnaaGreatDoor.PLabelParse
end
