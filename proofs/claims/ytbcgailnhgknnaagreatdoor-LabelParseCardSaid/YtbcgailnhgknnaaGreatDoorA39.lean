/- Proved here: what functions on this claim's road compute, each as a contract over the seat's program. Conditions: each theorem's own premises. -/
import Derived.Test.YtbcgailnhgknnaaGreatDoorA38
import Derived.Test.YtbcgailnhgknnaaGreatDoorA36
import Derived.Test.YtbcgailnhgknnaaGreatDoorA37
import Derived.Test.YtbcgailnhgknnaaGreatDoorA26
import Derived.Test.YtbcgailnhgknnaaGreatDoorA10
import Derived.Test.YtbcgailnhgknnaaGreatDoorA12
import Derived.Test.YtbcgailnhgknnaaGreatDoorA11
section
namespace Go.Proofs.YtbcgailnhgknnaaGreatDoor.PLabelParse
open Go.RowKit Go.Proofs.YtbcgailnhgknnaaGreatDoorW.PrintWords Go.Proofs.YtbcgailnhgknnaaGreatDoorW.PrintLast Go.Proofs.YtbcgailnhgknnaaGreatDoorW.PrintMore Go.Proofs.YtbcgailnhgknnaaGreatDoorU8
attribute [local go_sem] max2_int min2_int max_two min_two max_three min_three max_four min_four
set_option linter.unusedVariables false
set_option linter.unusedSimpArgs false
theorem strOfNums_size (l : List Int) : (strOfNums l).size = l.length := by simp [strOfNums, ByteArray.size]
theorem jtok_text.total (k : Nat) (s : ByteArray) (hs : s.size ≤ 1073741824) (hk : s.size + 6 < k) : ∀ (d n : Nat) (i : Nat) (out : List Int), i ≤ s.size → s.size - i = d → d < n → out.length + d ≤ 1073741824 →
    ∃ q, jtok_text.l k n s i out = some q ∧ (q.2.2 = 0 ∨ q.2.2 = 3) ∧ q.1.size ≤ out.length + d ∧ (q.2.2 = 0 → (i : Int) < q.2.1 ∧ q.2.1 ≤ s.size) := by
  intro d
  induction d using Nat.strongRecOn with
  | ind d ih =>
    intro n i out hi hd hn ho
    obtain ⟨n, rfl⟩ : ∃ m, n = m + 1 := ⟨n - 1, by omega⟩
    simp only [jtok_text.l]
    by_cases hlt : i < s.size
    · rw [if_pos hlt]
      by_cases c34 : bt s (i : Int) = 34
      · rw [if_pos c34]
        refine ⟨_, rfl, Or.inl rfl, ?_, fun _ => ?_⟩
        · simp only [strOfNums_size]; omega
        · simp only; omega
      · rw [if_neg c34]
        by_cases c32 : bt s (i : Int) < 32
        · rw [if_pos c32]
          exact ⟨_, rfl, Or.inr rfl, Nat.zero_le _, by simp⟩
        · rw [if_neg c32]
          by_cases c92 : bt s (i : Int) = 92
          · rw [if_pos c92]
            obtain ⟨q, hq, h1, h2⟩ := jtok_escaped.total k s (by omega) (i + 1) (by omega) hk
            rw [hq]
            simp only [Option.bind_some]
            by_cases he : q.2.2 = 0
            · rw [if_pos he]
              obtain ⟨g1, g2, g3⟩ := h2 he
              rw [if_pos ⟨by omega, g2, by omega⟩]
              have hl : q.1.length ≤ q.2.1.toNat - (i + 1) := by omega
              obtain ⟨r, hr, r1, r2, r3⟩ := ih (s.size - q.2.1.toNat) (by omega) n q.2.1.toNat (out ++ q.1) (by omega) rfl (by omega) (by simp; omega)
              refine ⟨r, hr, r1, ?_, fun h => ?_⟩
              · simp only [List.length_append] at r2; omega
              · have := r3 h; omega
            · rw [if_neg he]
              have he3 : q.2.2 = 3 := by omega
              exact ⟨_, rfl, Or.inr he3, Nat.zero_le _, fun h => absurd h he⟩
          · rw [if_neg c92]
            by_cases hu : (u8next (bytesOf (s.extract i (min (i + 4) s.size)))).2.2 = 0
            · rw [if_pos hu, if_pos (by omega)]
              have hn := u8next_ok hu
              rw [bytesOf_length] at hn
              have hsz : (s.extract i (min (i + 4) s.size)).size = min (i + 4) s.size - i := by simp
              rw [hsz] at hn
              generalize (u8next (bytesOf (s.extract i (min (i + 4) s.size)))).2.1 = m at *
              have hpl : (bytesOf (s.extract i (i + m.toNat))).length = m.toNat := by rw [bytesOf_length]; simp; omega
              obtain ⟨r, hr, r1, r2, r3⟩ := ih (s.size - (i + m.toNat)) (by omega) n (i + m.toNat) (out ++ bytesOf (s.extract i (i + m.toNat))) (by omega) rfl (by omega) (by rw [List.length_append, hpl]; omega)
              refine ⟨r, hr, r1, ?_, fun h => ?_⟩
              · rw [List.length_append, hpl] at r2; omega
              · have := r3 h; omega
            · rw [if_neg hu]
              exact ⟨_, rfl, Or.inr rfl, Nat.zero_le _, by simp⟩
    · rw [if_neg hlt]
      exact ⟨_, rfl, Or.inr rfl, Nat.zero_le _, by simp⟩
theorem num_digits.total (s : ByteArray) (hs : s.size ≤ 1073741824) (lim : Int) : ∀ (d k : Nat) (v i : Int), 0 ≤ i → i ≤ s.size → (s.size : Int) - i = d → d < k → ∃ r, num_digits.l0 k s lim v (s.size : Int) i = some r := by
  intro d
  induction d with
  | zero =>
    intro k v i h0 h1 hd hk
    obtain ⟨k, rfl⟩ : ∃ m, k = m + 1 := ⟨k - 1, by omega⟩
    simp only [num_digits.l0]
    rw [if_neg (by omega)]
    exact ⟨_, rfl⟩
  | succ d ih =>
    intro k v i h0 h1 hd hk
    obtain ⟨k, rfl⟩ : ∃ m, k = m + 1 := ⟨k - 1, by omega⟩
    simp only [num_digits.l0]
    have hw : wrap64 (i + 1) = i + 1 := by unfold wrap64; omega
    rw [if_pos (by omega), if_pos h0, if_pos (by omega), hw]
    split
    · exact ⟨_, rfl⟩
    · exact ih k _ (i + 1) (by omega) (by omega) (by omega) (by omega)
theorem num_Parse.total (k : Nat) (s : ByteArray) (hs : s.size ≤ 1073741824) (hk : s.size < k) : ∃ r, num_Parse.f k s = some r := by
  have ht : ∀ (t : ByteArray) (m : Bool), t.size ≤ s.size → ∃ r, num_tail.f k t m = some r := by
    intro t m h
    unfold num_tail.f
    obtain ⟨r, hr⟩ := num_digits.total t (by omega) (num_lim m) t.size k 0 0 (by omega) (by omega) (by omega) (by omega)
    have hr' : num_digits.f k t (num_lim m) = some r := hr
    rw [hr']
    simp only [Option.bind_some]
    (repeat' split) <;> exact ⟨_, rfl⟩
  unfold num_Parse.f
  rw [if_pos (by omega)]
  split
  · exact ht _ _ (by simp)
  · exact ht _ _ (Nat.le_refl _)
theorem jtok_word.total (s : ByteArray) : ∃ r, jtok_word.f s = some r := by
  unfold jtok_word.f
  (repeat' split) <;> exact ⟨_, rfl⟩
theorem jtok_token.total (k : Nat) (s : ByteArray) (hs : s.size ≤ 1073741824) (i : Nat) (hi : i < s.size) (hk : s.size + 6 < k) : ∃ t e, jtok_token.f k s i = some (t, e) ∧ (e = 0 → (i : Int) ≤ t.to_ ∧ t.to_ ≤ s.size ∧ t.text.size ≤ s.size) := by
  unfold jtok_token.f
  by_cases hp : 0 ≤ punct (bt s (i : Int))
  · rw [if_pos hp]
    refine ⟨_, _, rfl, fun _ => ?_⟩
    simp only [show (⟨#[]⟩ : ByteArray).size = 0 from rfl]
    omega
  rw [if_neg hp]
  by_cases h34 : bt s (i : Int) = 34
  · rw [if_pos h34]
    obtain ⟨q, hq, h1, h2, h3⟩ := jtok_text.total k s hs hk (s.size - (i + 1)) k (i + 1) [] (by omega) rfl (by omega) (by simp; omega)
    rw [hq]
    simp only [Option.bind_some]
    split
    · rename_i he
      refine ⟨_, _, rfl, fun _ => ?_⟩
      have := h3 he
      simp only [List.length_nil] at h2
      simp only
      omega
    · rename_i he
      exact ⟨_, _, rfl, fun h => absurd h he⟩
  rw [if_neg h34]
  split
  · have hb := runTo_bd numB s i (by omega)
    obtain ⟨r, hr⟩ := num_Parse.total k (s.extract i (runTo numB s i)) (by simp; omega) (by simp; omega)
    rw [hr]
    simp only [Option.bind_some]
    split
    · refine ⟨_, _, rfl, fun _ => ?_⟩
      simp only [show (⟨#[]⟩ : ByteArray).size = 0 from rfl]
      omega
    · rename_i he
      exact ⟨_, _, rfl, fun h => absurd h he⟩
  · have hb := runTo_bd wordB s i (by omega)
    obtain ⟨r, hr⟩ := jtok_word.total (s.extract i (runTo wordB s i))
    rw [hr]
    simp only [Option.bind_some]
    split
    · exact ⟨_, _, rfl, by simp⟩
    · refine ⟨_, _, rfl, fun _ => ?_⟩
      simp only [show (⟨#[]⟩ : ByteArray).size = 0 from rfl]
      omega
theorem jtok_Next.total (k : Nat) (s : ByteArray) (hs : s.size ≤ 1073741824) (i : Nat) (hi : i ≤ s.size) (hk : s.size + 6 < k) : ∃ t e, jtok_Next.f k s i = some (t, e) ∧ (e = 0 → (i : Int) ≤ t.to_ ∧ t.to_ ≤ s.size ∧ t.text.size ≤ s.size) := by
  unfold jtok_Next.f
  have hb := runTo_bd blankB s i hi
  split
  · exact ⟨_, _, rfl, by simp⟩
  · rename_i hne
    obtain ⟨t, e, ht, hp⟩ := jtok_token.total k s hs (runTo blankB s i) (by omega) hk
    rw [ht]
    simp only [Option.bind_some]
    split
    · rename_i he
      refine ⟨_, _, rfl, fun _ => ?_⟩
      have := hp he
      omega
    · rename_i he
      exact ⟨_, _, rfl, fun h => absurd h he⟩
theorem cutPrefix.total (a b : ByteArray) : ∃ r1 r2, strings_CutPrefix.f a b = some (r1, r2) ∧ r1.size ≤ a.size := by
  have : ∃ r1 r2, strings_CutPrefix.f a b = some (r1, r2) := by
    unfold strings_CutPrefix.f stringslite_CutPrefix.f stringslite_HasPrefix.f
    have z1 : 0 ≤ (b.size : Int) := by omega
    by_cases h : (a.size : Int) ≥ (b.size : Int)
    · have z2 : (b.size : Int) ≤ (a.size : Int) := h
      simp only [h, z1, z2, if_true, Option.bind_some]
      cases ((a.extract 0 ((b.size : Int) : Int).toNat).toList == b.toList) <;> simp
    · rw [if_neg h]
      simp
  obtain ⟨r1, r2, h⟩ := this
  exact ⟨r1, r2, h, cutPrefix_le h⟩
theorem cutSuffix.total (a b : ByteArray) (ha : a.size ≤ 1073741824) (hb : b.size ≤ 1073741824) : ∃ r1 r2, strings_CutSuffix.f a b = some (r1, r2) ∧ r1.size ≤ a.size := by
  unfold strings_CutSuffix.f stringslite_CutSuffix.f stringslite_HasSuffix.f
  have hw : wrap64 ((a.size : Int) - (b.size : Int)) = (a.size : Int) - b.size := by unfold wrap64; omega
  rw [hw]
  by_cases h : (a.size : Int) ≥ (b.size : Int)
  · have z1 : 0 ≤ (a.size : Int) - (b.size : Int) := by omega
    have z2 : (a.size : Int) - (b.size : Int) ≤ (a.size : Int) := by omega
    simp only [h, z1, z2, if_true, Option.bind_some]
    cases ((a.extract ((a.size : Int) - (b.size : Int)).toNat a.size).toList == b.toList)
    · exact ⟨_, _, rfl, Nat.le_refl _⟩
    · exact ⟨_, _, rfl, by simp⟩
  · rw [if_neg h]
    exact ⟨_, _, rfl, Nat.le_refl _⟩
/-- What the pairs of a text are like. -/
theorem label_pairs.l_total (k : Nat) (M : Nat) (hM : M ≤ 1073741824) (hk : M + 6 < k) : ∀ (d n : Nat) (s : ByteArray) (out : PS), s.size = d → d ≤ M → d < n → (∀ x ∈ out, x.1.size ≤ M ∧ x.2.size ≤ M) → ∃ ps ok, label_pairs.l k n s out = some (ps, ok) ∧ (∀ x ∈ ps, x.1.size ≤ M ∧ x.2.size ≤ M) ∧ ps.length ≤ out.length + d := by
  intro d
  induction d using Nat.strongRecOn with
  | ind d ih =>
    intro n s out hs hd hn ho
    obtain ⟨n, rfl⟩ : ∃ m, n = m + 1 := ⟨n - 1, by omega⟩
    simp only [label_pairs.l]
    by_cases hi : 0 ≤ Lib.indexByte s.data.toList 61
    · rw [if_pos hi]
      have hlt := indexByte_lt hi
      have hlen : s.data.toList.length = s.size := Array.length_toList
      rw [hlen] at hlt
      generalize (Lib.indexByte s.data.toList 61).toNat = i at *
      have hrs : (s.extract (i + 1) s.size).size = s.size - (i + 1) := by simp
      have hnm : (s.extract 0 i).size ≤ M := by simp; omega
      generalize s.extract (i + 1) s.size = rest at *
      generalize s.extract 0 i = name at *
      obtain ⟨t, e, ht, hp⟩ := jtok_Next.total k rest (by omega) 0 (Nat.zero_le _) (by omega)
      rw [ht]
      simp only [Option.bind_some]
      by_cases he : e = 0
      · rw [if_pos he]
        have hp' := hp he
        by_cases h7 : t.kind = 7
        · rw [if_pos h7]
          by_cases hf : t.from_ = 0
          · rw [if_pos hf, if_pos ⟨by omega, hp'.2.1⟩]
            obtain ⟨r1, r2, hr, hrl⟩ := cutPrefix.total (rest.extract t.to_.toNat rest.size) ⟨#[44]⟩
            rw [hr]
            simp only [Option.bind_some]
            have ho' : ∀ x ∈ out ++ [(name, t.text)], x.1.size ≤ M ∧ x.2.size ≤ M := by
              intro x hx
              rcases List.mem_append.1 hx with hx | hx
              · exact ho x hx
              · simp at hx; subst hx; exact ⟨hnm, by simp only; omega⟩
            have hr1 : r1.size ≤ rest.size := by simp at hrl; omega
            split
            · obtain ⟨ps, ok, h1, h2, h3⟩ := ih r1.size (by omega) n r1 (out ++ [(name, t.text)]) rfl (by omega) (by omega) ho'
              exact ⟨ps, ok, h1, h2, by simp only [List.length_append, List.length_cons, List.length_nil] at h3; omega⟩
            · exact ⟨_, _, rfl, ho', by simp only [List.length_append, List.length_cons, List.length_nil]; omega⟩
          · rw [if_neg hf]; exact ⟨_, _, rfl, by simp, by simp⟩
        · rw [if_neg h7]; exact ⟨_, _, rfl, by simp, by simp⟩
      · rw [if_neg he]; exact ⟨_, _, rfl, by simp, by simp⟩
    · rw [if_neg hi]; exact ⟨_, _, rfl, by simp, by simp⟩
theorem label_pairs.total (k : Nat) (s : ByteArray) (hs : s.size ≤ 1073741824) (hk : s.size + 6 < k) : ∃ ps ok, label_pairs.f k s = some (ps, ok) ∧ (∀ x ∈ ps, x.1.size ≤ s.size ∧ x.2.size ≤ s.size) ∧ ps.length ≤ s.size := by
  unfold label_pairs.f
  split
  · exact ⟨_, _, rfl, by simp, by simp⟩
  · obtain ⟨ps, ok, h1, h2, h3⟩ := label_pairs.l_total k s.size hs hk s.size k s [] rfl (Nat.le_refl _) (by omega) (by simp)
    exact ⟨ps, ok, h1, h2, by simpa using h3⟩
end Go.Proofs.YtbcgailnhgknnaaGreatDoor.PLabelParse
end
section
namespace Go.Proofs.YtbcgailnhgknnaaGreatDoor.PLabelParse
open Go.RowKit Go.Proofs.YtbcgailnhgknnaaGreatDoorW.PrintWords Go.Proofs.YtbcgailnhgknnaaGreatDoorW.PrintLast Go.Proofs.YtbcgailnhgknnaaGreatDoorW.PrintMore Go.Proofs.YtbcgailnhgknnaaGreatDoorU8
attribute [local go_sem] max2_int min2_int max_two min_two max_three min_three max_four min_four
set_option linter.unusedVariables false
set_option linter.unusedSimpArgs false
theorem bodyF_bound (M : Nat) : ∀ (l : PS) (f : Bool), (∀ x ∈ l, x.1.size ≤ M ∧ x.2.size ≤ M) → (bodyF f l).length ≤ l.length * (7 * M + 4)
  | [], f, _ => by simp [bodyF]
  | x :: r, f, h => by
    have hr := bodyF_bound M r false (fun y hy => h y (by simp [hy]))
    have hx := h x (by simp)
    have hq := qL_len x.2.data.toList
    have h2 : x.2.data.toList.length = x.2.size := Array.length_toList
    have h1 : x.1.data.toList.length = x.1.size := Array.length_toList
    have hi : (itemL x).length ≤ 7 * M + 3 := by
      simp only [itemL, quoteL, List.length_append, List.length_cons, List.length_nil]
      omega
    have hf : (if f then ([] : List UInt8) else [44]).length ≤ 1 := by cases f <;> simp
    have e1 : (x :: r).length * (7 * M + 4) = r.length * (7 * M + 4) + (7 * M + 4) := by rw [List.length_cons, Nat.add_mul, Nat.one_mul]
    rw [e1]
    generalize r.length * (7 * M + 4) = u at *
    simp only [bodyF, List.length_append]
    omega
theorem ofL_sub {ps : PS} (M : Nat) (h : ∀ x ∈ ps, x.1.size ≤ M ∧ x.2.size ≤ M) : (∀ x ∈ ofL ps, x.1.size ≤ M ∧ x.2.size ≤ M) ∧ (ofL ps).length ≤ ps.length := by
  refine ⟨fun x hx => h x (mem_ofL hx).1, ?_⟩
  unfold ofL
  split
  · simp
  · split
    · simp
    · rw [(sortP_perm ps).length_eq]; exact Nat.le_refl _
theorem LabelParse.all (s : ByteArray) (w : World) (hE : ErrCell w) : Calls Tryz.prog 3 #[.string s] w fun e w' => e = .returned (.bool true) ∧ Below w.heap.size w w' := by
  obtain ⟨s1, h1s, hs1⟩ : ∃ s1 : ByteArray, ((s.size ≤ 120 ∧ s1 = s) ∨ (120 < s.size ∧ s1 = s.extract 0 120)) ∧ s1.size ≤ 120 := by
    by_cases h : s.size ≤ 120
    · exact ⟨s, Or.inl ⟨h, rfl⟩, h⟩
    · exact ⟨s.extract 0 120, Or.inr ⟨by omega, rfl⟩, by simp; omega⟩
  obtain ⟨i1, a, h1, l1⟩ := cutPrefix.total s1 ⟨#[123]⟩
  obtain ⟨i2, b, h2, l2⟩ := cutSuffix.total i1 ⟨#[125]⟩ (by omega) (by rw [show (⟨#[125]⟩ : ByteArray).size = 1 from rfl]; omega)
  obtain ⟨ps, ok, h3, hx, hl⟩ := label_pairs.total 10000 i2 (by omega) (by omega)
  have hx' : ∀ x ∈ ps, x.1.size ≤ 120 ∧ x.2.size ≤ 120 := fun x h => by have := hx x h; omega
  obtain ⟨ox, ol⟩ := ofL_sub 120 hx'
  have htx : (textL (ofL ps)).length ≤ 1099511627776 := by
    have hb := bodyF_bound 120 (ofL ps) true ox
    have : (ofL ps).length * (7 * 120 + 4) ≤ 120 * (7 * 120 + 4) := Nat.mul_le_mul_right _ (by omega)
    simp only [textL, List.length_cons, List.length_append, List.length_nil]
    omega
  exact LabelParse.walk 10000 s s1 h1s i1 i2 a b ps ok w hE (by omega) h1 h2 h3 (fun x h => by have := hx' x h; exact ⟨by omega, by omega⟩) (by omega) htx
    (fun h0 => ref_Of 10000 120 (by omega) ps (by omega) hx' h0 (by omega))
    (ref_Same_f 10000 (toR (ofL ps)) (by simp [toR]; omega) (by simp [toR]; omega))
    (fun _ => ref_Text 10000 120 (by omega) (ofL ps) (by omega) (fun x h => (ox x h).2) htx (by omega))
end Go.Proofs.YtbcgailnhgknnaaGreatDoor.PLabelParse
end
