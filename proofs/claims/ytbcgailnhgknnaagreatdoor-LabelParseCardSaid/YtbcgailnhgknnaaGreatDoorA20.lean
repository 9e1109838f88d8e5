/- Proved here: what functions on this claim's road compute, each as a contract over the seat's program. Conditions: each theorem's own premises. -/
import Derived.Shelf.Abstract
import Derived.WalkLawsBesides
import Derived.IntWalk
import Derived.Test.YtbcgailnhgknnaaGreatDoorA11
import Derived.Test.YtbcgailnhgknnaaGreatDoorA16
import Derived.Test.YtbcgailnhgknnaaGreatDoorA01
import Derived.Test.YtbcgailnhgknnaaGreatDoorA10
import Derived.Test.YtbcgailnhgknnaaGreatDoorA19
namespace Go.Proofs.YtbcgailnhgknnaaGreatDoor.PLabelParse
open Go.Proofs.YtbcgailnhgknnaaGreatDoorU8 Go.RowKit Go.Proofs.YtbcgailnhgknnaaGreatDoorW.PrintWords Go.Proofs.YtbcgailnhgknnaaGreatDoorW.PrintLast Go.Proofs.YtbcgailnhgknnaaGreatDoorW.PrintMore
attribute [local go_sem] max2_int min2_int max_two min_two max_three min_three max_four min_four   -- for this text's walks alone
set_option linter.unusedVariables false
set_option linter.unusedSimpArgs false
set_option maxHeartbeats 1000000 in
set_option maxRecDepth 100000 in
theorem label_bad.own (x : ByteArray × ByteArray) (h1 : x.1.size ≤ 1099511627776) (h2 : x.2.size ≤ 1099511627776) (W : World) :
    Calls Tryz.prog 24 #[.agg #[.string x.1, .string x.2]] W fun e w' => e = .returned (.bool (badP x)) ∧ Below W.heap.size W w' := by
  obtain ⟨a, b⟩ := x
  simp only at h1 h2
  have HN := Aside0.mk (fun W => label_Name.calls a (nameB a) W (by unfold label_Name.f; rw [if_pos (by omega)]))
  have HV := Aside0.mk (fun W => utf_Valid.calls b (u8valid (bytesOf b)) W (by unfold utf_Valid.f utf_walk.f; rw [if_pos (by omega)]; simp [u8valid, bytesOf_length]))
  unfold badP
  simp only
  clear h1 h2
  generalize u8valid (bytesOf b) = vb at *
  generalize nameB a = nb at *
  cases nb with
  | false =>
    go_enter Tryz.func24, Tryz.ntmps24
    go_wp2_with (first | (go_at_call 25; (with_reducible refine (HN.out _).mono ?_); rintro e w' ⟨rfl, ⟨n1, rfl⟩⟩))
    go_ret
    exact ⟨rfl, below_drewN ((Below.refl _ _).alloc (Nat.le_refl _) _) _⟩
  | true =>
    by_cases hb : b.toList = []
    · have hb1 : (b.toList == ([] : List UInt8)) = true := by simp [hb]
      rw [hb1]
      have HB := Aside0.mk hb
      clear hb
      go_enter Tryz.func24, Tryz.ntmps24
      go_wp2_with (first | (go_at_call 25; (with_reducible refine (HN.out _).mono ?_); rintro e w' ⟨rfl, ⟨n1, rfl⟩⟩))
      go_ret
      exact ⟨rfl, below_drewN ((Below.refl _ _).alloc (Nat.le_refl _) _) _⟩
    · have hb1 : (b.toList == ([] : List UInt8)) = false := by simp [hb]
      rw [hb1]
      go_enter Tryz.func24, Tryz.ntmps24
      go_wp2_with (first | (go_at_call 25; (with_reducible refine (HN.out _).mono ?_); rintro e w' ⟨rfl, ⟨n1, rfl⟩⟩) | (go_at_call 26; (with_reducible refine (HV.out _).mono ?_); rintro e w' ⟨rfl, hB⟩))
      go_ret
      have hb0 := below_drewN ((Below.refl W.heap.size W).alloc (Nat.le_refl _) (.cells #[.string a, .string b] 47)) n1
      exact ⟨by cases vb <;> rfl, hb0.trans (hB.mono (by simp [drewN_size]))⟩
theorem cmp_eq (a b : ByteArray) (u v : ByteArray) : cmpN (a, u) (b, v) = if Op.bytesLess a.toList b.toList = true then -1 else if (!(Op.bytesLess a.toList b.toList || a.toList == b.toList)) = true then 1 else 0 := by
  rw [bytesLess_eq]
  unfold cmpN ltN nm
  simp only
  by_cases h1 : a.toList < b.toList
  · simp [h1]
  · by_cases h2 : b.toList < a.toList
    · have : a.toList ≠ b.toList := fun e => by rw [e] at h2; exact List.lt_irrefl _ h2
      simp [h1, h2, this]
    · have : a.toList = b.toList := List.le_antisymm (List.not_lt.1 h2) (List.not_lt.1 h1)
      simp [this, List.lt_irrefl]
theorem cmp_isNaN.own (a : ByteArray) (W : World) : Calls Tryz.prog 51 #[.string a] W fun e w' => e = .returned (.bool false) ∧ w' = W := by
  go_enter Tryz.func51, Tryz.ntmps51
  go_wp2
  go_ret
  exact ⟨by simp, rfl⟩
set_option maxHeartbeats 1000000 in
set_option maxRecDepth 100000 in
theorem cmp_Compare.own (a b : ByteArray) (u v : ByteArray) (W : World) : Calls Tryz.prog 30 #[.string a, .string b] W fun e w' => e = .returned (.int .i64 (cmpN (a, u) (b, v))) ∧ w' = W := by
  rw [cmp_eq]
  have HN := Aside0.mk (fun a W => cmp_isNaN.own a W)
  cases h1 : Op.bytesLess a.toList b.toList with
  | true =>
    go_enter Tryz.func30, Tryz.ntmps30
    go_wp2_with (go_at_call 51; (with_reducible refine (HN.out _ _).mono ?_); rintro e w' ⟨rfl, rfl⟩)
    go_ret
    exact ⟨rfl, rfl⟩
  | false =>
    cases h2 : (a.toList == b.toList) with
    | true =>
      go_enter Tryz.func30, Tryz.ntmps30
      go_wp2_with (go_at_call 51; (with_reducible refine (HN.out _ _).mono ?_); rintro e w' ⟨rfl, rfl⟩)
      go_ret
      exact ⟨rfl, rfl⟩
    | false =>
      go_enter Tryz.func30, Tryz.ntmps30
      go_wp2_with (go_at_call 51; (with_reducible refine (HN.out _ _).mono ?_); rintro e w' ⟨rfl, rfl⟩)
      go_ret
      exact ⟨rfl, rfl⟩
set_option maxHeartbeats 1000000 in
set_option maxRecDepth 100000 in
theorem label_cmp.own (x y : ByteArray × ByteArray) (W : World) :
    Calls Tryz.prog 29 #[.agg #[.string x.1, .string x.2], .agg #[.string y.1, .string y.2]] W fun e w' => e = .returned (.int .i64 (cmpN x y)) ∧ ∃ q os, w' = Go.Sort.grow (W.drewN q) os := by
  obtain ⟨a, u⟩ := x
  obtain ⟨b, v⟩ := y
  have HC := Aside0.mk (fun W => cmp_Compare.own a b u v W)
  generalize cmpN (a, u) (b, v) = c at *
  go_enter Tryz.func29, Tryz.ntmps29
  go_wp2_with (go_at_call 30; (with_reducible refine (HC.out _).mono ?_); rintro e w' ⟨rfl, rfl⟩)
  go_ret
  exact ⟨rfl, 0, #[.cells #[.string a, .string u] 47 (0, 0), .cells #[.string b, .string v] 47 (0, 0)], by rw [Go.Sort.alloc_eq_grow, Go.Sort.alloc_eq_grow, Go.Sort.grow_grow]; rfl⟩
def SmallP (x : ByteArray × ByteArray) : Prop := x.1.size ≤ 1099511627776 ∧ x.2.size ≤ 1099511627776
instance : Inhabited { x : ByteArray × ByteArray // SmallP x } := ⟨⟨(⟨#[]⟩, ⟨#[]⟩), ⟨Nat.zero_le _, Nat.zero_le _⟩⟩⟩
theorem pmap_any (p : ByteArray × ByteArray → Bool) : ∀ (l : PS) (h : ∀ x ∈ l, SmallP x), (l.pmap Subtype.mk h).any (fun x => p x.1) = l.any p
  | [], _ => rfl
  | x :: r, h => by simp only [List.pmap_cons, List.any_cons]; rw [pmap_any p r]
theorem pmap_get {l : PS} (h : ∀ x ∈ l, SmallP x) (j : Nat) (hj : j < l.length) : ((l.pmap Subtype.mk h)[j]!).1 = l[j] := by
  rw [getElem!_pos _ _ (by simpa using hj)]
  simp
set_option maxHeartbeats 1000000 in
set_option maxRecDepth 100000 in
theorem slices_IndexFunc_nil.own (f : Value) (W : World) : Calls Tryz.prog 44 #[.slice none 0 0, f] W fun e w' => e = .returned (.int .i64 (-1)) ∧ w' = W := by
  go_enter Tryz.func44, Tryz.ntmps44
  go_wp2
  go_loop [8] (fun i => i = .int .i64 0) (fun _ => 0)
  case atStart => rfl
  case round =>
    subst hrel
    go_wp2
    go_ret
    exact ⟨rfl, rfl⟩
set_option maxHeartbeats 1000000 in
set_option maxRecDepth 100000 in
theorem slices_ContainsFunc.own (base : Nat) (v : Value) (l0 : PS) (hs : ∀ x ∈ l0, SmallP x) (hl : l0.length ≤ 9223372036854775807) (w : World) (h : PairsAt 47 w base v l0) :
    Calls Tryz.prog 23 #[v, .func (.func 24) #[] #[]] w fun e w' => e = .returned (.bool (l0.any badP)) ∧ Below w.heap.size w w' := by
  rcases pairs_form h with ⟨rfl, rfl⟩ | ⟨g, cap, rfl, hb, hg, hc, hm⟩
  · have HI := Aside0.mk (fun W => slices_IndexFunc_nil.own (.func (.func 24) #[] #[]) W)
    clear h hs hl
    go_enter Tryz.func23, Tryz.ntmps23
    go_wp2_with (go_at_call 44; (with_reducible refine (HI.out _).mono ?_); rintro e w' ⟨rfl, rfl⟩)
    go_ret
    exact ⟨rfl, Below.refl _ _⟩
  · have eg : ∀ args w, (callFunc 24 args).run Tryz.prog w = .ok (.enter 24 args) w := enters_of Tryz.func24 (by kernel_rfl) rfl
    have hcon := AnyQ.slices_ContainsFunc Tryz.layContains 2 Tryz.isAgg47 Tryz.sizeOf47 (fun x : { x : ByteArray × ByteArray // SmallP x } => encP x.1) (fun _ => rfl) (fun x => badP x.1) 24 #[] eg g 0 l0.length cap (l0.pmap Subtype.mk hs) w
      (fun W x hW => (label_bad.own x.1 x.2.1 x.2.2 W).mono fun _ _ ⟨he, hB⟩ => ⟨he, hW.trans (hB.mono hW.size)⟩) (by simp) hl hg (fun j hj i u hi => by
        have hj' : j < l0.length := by simpa using hj
        rw [pmap_get hs j hj'] at hi
        have hf := flatP_get l0 j l0[j] (by simp [hj'])
        match i, hi with
        | 0, hi => simp [encP] at hi; subst hi; exact (by simpa using (pairs_cell h _ _ hf.1).1)
        | 1, hi => simp [encP] at hi; subst hi; exact (by simpa using (pairs_cell h _ _ hf.2).1)
        | i + 2, hi => simp [encP] at hi)
    have ea : ((l0.pmap Subtype.mk hs).take l0.length).any (fun x => badP x.1) = l0.any badP := by
      rw [List.take_of_length_le (by simp), pmap_any]
    rw [ea] at hcon
    exact hcon
theorem pair_info : (Tryz.prog.info? 47).map (fun i => (i.zero, i.size, i.bytes)) = some (some (.agg #[.string ⟨#[]⟩, .string ⟨#[]⟩]), 2, 32) := by kernel_rfl
theorem slices_Clone.own (base : Nat) (v : Value) (l0 : PS) (hl : l0.length ≤ 1099511627776) (w : World) (h : PairsAt 47 w base v l0) :
    Calls Tryz.prog 27 #[v] w fun e w' => ∃ v', e = .returned v' ∧ PairsAt 47 w' w.heap.size v' l0 ∧ Below w.heap.size w w' := by
  rcases pairs_form h with ⟨rfl, rfl⟩ | ⟨g, cap, rfl, hb, hg, hc, hm⟩
  · exact (AnyE.slices_Clone_nil Tryz.layClone 0 0 w).mono fun e w' ⟨he, hw⟩ => ⟨_, he, pairs_nil _ _ _, by rw [hw]; exact Below.refl _ _⟩
  · obtain ⟨i0, hi, hz0, hz1, hz2⟩ := info_parts pair_info
    have hcon := AnyE.slices_Clone Tryz.layClone i0 _ 2 32 hi hz0 hz1 hz2 rfl (by decide) Tryz.sizeOf47 g 0 l0.length cap (flatP l0) w (flatP_len l0) (by unfold maxLen; omega) (by omega)
      (fun j u hu => by simpa using (pairs_cell h j u hu).1) (fun u hu => by
        simp only [flatP, List.mem_flatMap] at hu
        obtain ⟨x, _, hu⟩ := hu
        simp [encP] at hu
        rcases hu with rfl | rfl <;> rfl)
    exact hcon.mono fun e w' ⟨v', he, ho, _, hB⟩ => ⟨v', he, ho, hB⟩
theorem slices_SortFunc.own (base : Nat) (v : Value) (l0 : PS) (hl : l0.length < 4611686018427387904) (w : World) (h : PairsAt 47 w base v l0) :
    Calls Tryz.prog 28 #[v, .func (.func 29) #[] #[]] w fun e w' => e = .returned (.tuple #[]) ∧ ∃ d : PS, d.Perm l0 ∧ Asc d ∧ PairsAt 47 w' base v d ∧ (base ≤ w.heap.size → Below base w w') := by
  rcases pairs_form h with ⟨rfl, rfl⟩ | ⟨g, cap, rfl, hb, hg, hc, hm⟩
  · exact (AnyF.slices_SortFunc_none Tryz.laySort none 0 _ w).mono fun e w' ⟨he, hw⟩ => ⟨he, [], List.Perm.nil, List.Pairwise.nil, by rw [hw]; exact h, fun _ => by rw [hw]; exact Below.refl _ _⟩
  · have eg : ∀ args w, (callFunc 29 args).run Tryz.prog w = .ok (.enter 29 args) w := enters_of Tryz.func29 (by kernel_rfl) rfl
    have hcon := AnyQ.slices_SortFunc Tryz.laySort 2 Tryz.isAgg47 Tryz.sizeOf47 encP (fun _ => rfl) (fun x v hv => by simp [encP] at hv; rcases hv with rfl | rfl <;> rfl) cmpN swoN 29 #[] g 0 cap l0.toArray w eg
      (fun m os dk _ x y => label_cmp.own x y _) (pairs_holds h) hg (by simpa using hl)
    have hsz : l0.toArray.size = l0.length := by simp
    rw [hsz] at hcon
    refine hcon.mono ?_
    rintro e w' ⟨he, d', n, os, hp, hs, rfl⟩
    have hsa := sorted_asc (d := l0.toArray) (by simpa using hp) (by simpa using hs)
    have hd : d'.toList.length = l0.length := by have := hsa.1.length_eq; simpa using this
    refine ⟨he, d'.toList, by simpa using hsa.1, hsa.2, ?_, fun hbw => below_sorted d' hb hbw⟩
    have := pairs_sorted (m := n) (os := os) h d'.toList hd
    simpa using this
def dupTo (l : PS) (k : Nat) : Prop := ∀ j, j + 1 < k → j + 1 < l.length → ((l.map nm).getD (j + 1) [] == (l.map nm).getD j []) = false
theorem dup_none (l : PS) (h : dupTo l l.length) : dupP l = false := by
  unfold dupP
  unfold dupTo at h
  have hl : l.length = (l.map nm).length := by simp
  rw [hl] at h
  generalize l.map nm = m at *
  clear hl
  induction m with
  | nil => rfl
  | cons x r ih =>
    cases r with
    | nil => rfl
    | cons y r =>
      simp only [dupN, Bool.or_eq_false_iff]
      refine ⟨by simpa using h 0 (by simp) (by simp), ih fun j h1 _ => ?_⟩
      have := h (j + 1) (by simpa using h1) (by simpa using h1)
      simpa using this
theorem dup_some (l : PS) (j : Nat) (hj : j + 1 < l.length) (h : ((l.map nm).getD (j + 1) [] == (l.map nm).getD j []) = true) : dupP l = true := by
  unfold dupP
  have hl : j + 1 < (l.map nm).length := by simpa using hj
  clear hj
  generalize l.map nm = m at *
  induction m generalizing j with
  | nil => simp at hl
  | cons x r ih =>
    cases r with
    | nil => simp at hl
    | cons y r =>
      simp only [dupN, Bool.or_eq_true]
      cases j with
      | zero => exact Or.inl (by simpa using h)
      | succ j => exact Or.inr (ih j (by simpa using h) (by simpa using hl))
def OfPost (l0 : PS) (w : World) (e : Ending) (w' : World) : Prop := ∃ v', e = .returned (.tuple #[.agg #[v'], .int .i64 (ofE l0)]) ∧ PairsAt 47 w' w.heap.size v' (ofL l0) ∧ Below w.heap.size w w'
theorem of_bad {l0 : PS} (h : l0.any badP = true) : ofE l0 = 3 ∧ ofL l0 = [] := by unfold ofE ofL; rw [if_pos h, if_pos h]; exact ⟨rfl, rfl⟩
theorem of_dup {l0 d : PS} (h : l0.any badP = false) (hp : d.Perm l0) (ha : Asc d) (hd : dupP d = true) : ofE l0 = 10 ∧ ofL l0 = [] := by
  have hso := (sort_one (hp.trans (sortP_perm l0).symm) ha (sortP_asc l0)).1
  rw [hd] at hso
  unfold ofE ofL
  rw [h, ← hso]
  exact ⟨rfl, rfl⟩
theorem of_ok {l0 d : PS} (h : l0.any badP = false) (hp : d.Perm l0) (ha : Asc d) (hd : dupP d = false) : ofE l0 = 0 ∧ ofL l0 = d := by
  have hso := sort_one (hp.trans (sortP_perm l0).symm) ha (sortP_asc l0)
  have h2 := hso.2 hd
  rw [hd] at hso
  unfold ofE ofL
  rw [h, ← hso.1, ← h2]
  exact ⟨rfl, rfl⟩
set_option maxHeartbeats 2000000 in
set_option maxRecDepth 100000 in
theorem label_Of.own (base : Nat) (v : Value) (l0 : PS) (hs : ∀ x ∈ l0, SmallP x) (hl : l0.length ≤ 1099511627776) (w : World) (h : PairsAt 47 w base v l0) :
    Calls Tryz.prog 13 #[v] w (OfPost l0 w) := by
  have HCF := Aside0.mk (fun W hW => slices_ContainsFunc.own base v l0 hs (by omega) W (pairs_below h hW))
  have HCL := Aside0.mk (fun W hW => slices_Clone.own base v l0 hl W (pairs_below h hW))
  have HL := Aside0.mk hl
  clear h hs hl
  have hb0 : Below w.heap.size w (w.alloc (.cells #[.slice none 0 0] 24)) := (Below.refl _ w).alloc (Nat.le_refl _) _
  cases hbad : l0.any badP with
  | true =>
    rw [hbad] at HCF
    have HBAD := Aside0.mk hbad
    clear hbad
    go_enter Tryz.func13, Tryz.ntmps13
    go_wp2_with (go_at_call 23; (with_reducible refine (HCF.out _ (by exact hb0)).mono ?_); rintro e w' ⟨rfl, hB⟩; obtain ⟨hc, hf⟩ := bcell hB; have hz : w.heap.size < w'.heap.size := (by have := hB.size; simp at this; omega))
    have z0 : w'.cell? ⟨w.heap.size, 0, none⟩ = some (.slice none 0 0) := (hc _ _ (by simp)).trans (by simp)
    have hb1 := hb0.trans (hB.mono hb0.size)
    show bodyPost Tryz.prog Tryz.f13 (OfPost l0 w) Exit.ret _ _
    refine bodyPost_ret (P := Tryz.prog) (fn := Tryz.f13) (R := OfPost l0 w) (v := .tuple #[.agg #[.slice none 0 0], .int .i64 3]) (by simp [results, Tryz.results13, go_sem, z0, hz]) rfl ⟨.slice none 0 0, by rw [(of_bad HBAD.out).1], by rw [(of_bad HBAD.out).2]; exact pairs_nil _ _ _, hb1.setCell (Nat.le_refl _) _⟩
  | false =>
    rw [hbad] at HCF
    have HBAD := Aside0.mk hbad
    clear hbad
    go_enter Tryz.func13, Tryz.ntmps13
    go_wp2_with fail
    refine (HCF.out _ hb0).mono ?_
    rintro e w1 ⟨rfl, hB1⟩
    have hb1 := Aside0.mk (hb0.trans (hB1.mono hb0.size))
    have z1 := Aside0.mk (show w1.cell? ⟨w.heap.size, 0, none⟩ = some (.slice none 0 0) from (hB1.cell (by simp)).trans (by simp))
    have y1 := Aside0.mk (show w1.frozen? ⟨w.heap.size, 0, none⟩ = false from (hB1.frozen (by simp)).trans (Lib.frozen_of_heap (heap_alloc_new w _) 0))
    have hz1 : w.heap.size < w1.heap.size := (by have := hB1.size; simp at this; omega)
    clear hB1 hb0 HCF
    go_wp2_with fail
    refine (HCL.out _ hb1.out).mono ?_
    rintro e w2 ⟨v2, rfl, hP2, hB2⟩
    have P2 := Aside0.mk hP2
    have hb2 := Aside0.mk (hb1.out.trans (hB2.mono hb1.out.size))
    have z2 := Aside0.mk (show w2.cell? ⟨w.heap.size, 0, none⟩ = some (.slice none 0 0) from (hB2.cell hz1).trans z1.out)
    have y2 := Aside0.mk (show w2.frozen? ⟨w.heap.size, 0, none⟩ = false from (hB2.frozen hz1).trans y1.out)
    have hz2 : w1.heap.size ≤ w2.heap.size := hB2.size
    clear hB2 hP2 HCL z1
    go_wp2_with fail
    refine (slices_SortFunc.own w1.heap.size v2 l0 (by have := HL.out; omega) _ P2.out).mono ?_
    rintro e w3 ⟨rfl, d, hp, ha, hP3, hB3⟩
    have hB3' := hB3 hz2
    have P3 := Aside0.mk hP3
    have HPD := Aside0.mk (And.intro hp ha)
    have hb3 := Aside0.mk (hb2.out.trans (hB3'.mono hb1.out.size))
    have z3 := Aside0.mk (show w3.cell? ⟨w.heap.size, 0, none⟩ = some (.slice none 0 0) from (hB3'.cell hz1).trans z2.out)
    have y3 := Aside0.mk (show w3.frozen? ⟨w.heap.size, 0, none⟩ = false from (hB3'.frozen hz1).trans y2.out)
    have hz3 : w1.heap.size ≤ w3.heap.size := Nat.le_trans hz2 hB3'.size
    clear hB3' hB3 P2 hb2 z2 hb1 hp ha hP3 hz2
    go_wp2_with fail
    rcases pairs_form P3.out with ⟨rfl, rfl⟩ | ⟨g, cap, rfl, hb, hg, hc, hm⟩
    · go_loop [5] (fun i => i = .int .i64 1) (fun _ => 0)
      case atStart => rfl
      case round =>
        subst hrel
        have z4 := z3.out
        have y4 := y3.out
        have HX := Aside0.mk (of_ok HBAD.out HPD.out.1 HPD.out.2 rfl)
        go_wp2
        show bodyPost Tryz.prog Tryz.f13 (OfPost l0 w) Exit.ret _ _
        refine bodyPost_ret (P := Tryz.prog) (fn := Tryz.f13) (R := OfPost l0 w) (v := .tuple #[.agg #[.slice none 0 0], .int .i64 0]) (by simp [results, Tryz.results13, go_sem, z4]) rfl ⟨.slice none 0 0, by rw [HX.out.1], by rw [HX.out.2]; exact pairs_nil _ _ _, ?_⟩
        exact (by repeat (with_reducible first | refine Below.setCell ?_ (by simp) _ | refine below_drewN ?_ _ | exact hb3.out))
    · unfold maxLen at hm
      go_loopw [5] (fun i wr => ∃ k : Nat, i = .int .i64 ((k : Int) + 1) ∧ (k = 0 ∨ k < d.length) ∧ Aside0 (dupTo d (k + 1)) ∧ Drawn0 w3 wr) (fun i _ => d.length - (intOf i).toNat)
      case atStart => exact ⟨0, rfl, Or.inl rfl, ⟨fun j h1 => absurd h1 (by omega)⟩, Drawn0.refl _⟩
      case round =>
        obtain ⟨k, rfl, hk, HD, ⟨n, rfl⟩⟩ := hrel
        by_cases hlt : k + 1 < d.length
        · have hx := flatP_get d (k + 1) d[k + 1] (by simp [hlt])
          have hy := flatP_get d k d[k] (by simp [show k < d.length by omega])
          have c1 := (pairs_cell P3.out _ _ hx.1).1
          have c0 := (pairs_cell P3.out _ _ hy.1).1
          have HLt := Aside0.mk hlt
          have hname : ((d.map nm).getD (k + 1) [] == (d.map nm).getD k []) = (d[k + 1].1.toList == d[k].1.toList) := by
            simp [List.getD_eq_getElem?_getD, hlt, show k < d.length by omega, nm]
          have HN := Aside0.mk hname
          clear hname
          have q1 : ((k : Int) + 1 < (d.length : Int)) = True := eq_true (by omega)
          have q2 : (0 ≤ (k : Int) + 1) = True := eq_true (by omega)
          have q3 : ((k : Int) < (d.length : Int)) = True := eq_true (by omega)
          generalize d[k + 1] = x at *
          generalize d[k] = y at *
          clear hx hy hk
          go_wp2_with fail
          have e2 : IntKind.i64.wrap (k : Int) = (k : Int) := IntWalk.i64_in _ (by omega)
          go_quiet (fail)
          cases hq : (x.1.toList == y.1.toList) with
          | true =>
            have HQ := Aside0.mk hq
            clear hq
            have z4 := z3.out
            have y4 := y3.out
            go_wp2
            have HXD := Aside0.mk (of_dup HBAD.out HPD.out.1 HPD.out.2 (dup_some d k HLt.out (by rw [HN.out]; exact HQ.out)))
            show bodyPost Tryz.prog Tryz.f13 (OfPost l0 w) Exit.ret _ _
            refine bodyPost_ret (P := Tryz.prog) (fn := Tryz.f13) (R := OfPost l0 w) (v := .tuple #[.agg #[.slice none 0 0], .int .i64 10]) (by simp [results, Tryz.results13, go_sem, z4]) rfl ⟨.slice none 0 0, by rw [HXD.out.1], by rw [HXD.out.2]; exact pairs_nil _ _ _, ?_⟩
            exact (by repeat (with_reducible first | refine Below.setCell ?_ (by simp) _ | refine below_drewN ?_ _ | exact hb3.out))
          | false =>
            have HQ := Aside0.mk hq
            clear hq
            go_wp2
            refine ⟨⟨k + 1, by go_num, Or.inr HLt.out, ⟨fun j h1 h2 => ?_⟩, ⟨n + nq, by first | rfl | simp⟩⟩, by have := HLt.out; simp [intOf]; omega⟩
            rcases Nat.lt_or_ge (j + 1) (k + 1) with h' | h'
            · exact HD.out j h' h2
            · obtain rfl : j = k := by omega
              rw [HN.out]; exact HQ.out
        · have z4 := z3.out
          have y4 := y3.out
          have q1 : ((k : Int) + 1 < (d.length : Int)) = False := eq_false (by omega)
          have HDN : dupP d = false := dup_none d (fun j h1 h2 => HD.out j (by omega) h2)
          have HX := Aside0.mk (of_ok HBAD.out HPD.out.1 HPD.out.2 HDN)
          clear HDN hlt
          go_wp2
          show bodyPost Tryz.prog Tryz.f13 (OfPost l0 w) Exit.ret _ _
          refine bodyPost_ret (P := Tryz.prog) (fn := Tryz.f13) (R := OfPost l0 w) (v := .tuple #[.agg #[.slice (some ⟨g, 0, none⟩) d.length cap], .int .i64 0]) (by simp [results, Tryz.results13, go_sem, z4]) rfl ⟨.slice (some ⟨g, 0, none⟩) d.length cap, by rw [HX.out.1], ?_, ?_⟩
          · rw [HX.out.2]
            exact pairs_lower (base := w1.heap.size) (ownsRow_setCell_below (a := ⟨w.heap.size, 0, none⟩) (ownsRow_below' P3.out (below_drewN (Below.refl _ _) n)) hz1 _) (by omega)
          · exact (by repeat (with_reducible first | refine Below.setCell ?_ (by simp) _ | refine below_drewN ?_ _ | exact hb3.out))
end Go.Proofs.YtbcgailnhgknnaaGreatDoor.PLabelParse
