/- Proved here: what functions on this claim's road compute, each as a contract over the seat's program. Conditions: each theorem's own premises. -/
import Derived.Sort.Grow
import Derived.Sort.Statements
import Derived.Shelf.GgSortFunc.RowK
import Derived.Shelf.GgSortFunc.InsertionK
import Derived.Sort.Walk0
import Derived.Shelf.SlSortCmp.Insertion
import Derived.Test.YtbcgailnhgknnaaGreatDoorA10
section
set_option linter.unusedVariables false
set_option linter.unusedSimpArgs false
namespace Go.Proofs.YtbcgailnhgknnaaGreatDoorU8
open Go.RowKit Go.Proofs.YtbcgailnhgknnaaGreatDoorW.PrintWords
open Go Go.Sort
abbrev PS := List (ByteArray × ByteArray)
instance : Inhabited (ByteArray × ByteArray) := ⟨(⟨#[]⟩, ⟨#[]⟩)⟩
def encP (x : ByteArray × ByteArray) : List Value := [.string x.1, .string x.2]
def flatP (ps : PS) : List Value := ps.flatMap encP
/-- A slice that owns a row of pairs. -/
def PairsAt (e : TypeId) (w : World) (base : Nat) (v : Value) (ps : PS) : Prop := w.ownsRow base e 2 v ps.length (flatP ps)
theorem flatP_len : ∀ ps : PS, (flatP ps).length = ps.length * 2
  | [] => rfl
  | p :: r => by
    have := flatP_len r
    simp only [flatP, List.flatMap_cons, List.length_append, List.length_cons] at *
    simp only [encP, List.length_cons, List.length_nil]
    omega
theorem flatP_get : ∀ (ps : PS) (j : Nat) (x : ByteArray × ByteArray), ps[j]? = some x → (flatP ps)[j * 2]? = some (.string x.1) ∧ (flatP ps)[j * 2 + 1]? = some (.string x.2)
  | [], j, x, h => by simp at h
  | p :: r, 0, x, h => by
    simp at h
    subst h
    exact ⟨rfl, rfl⟩
  | p :: r, j + 1, x, h => by
    have h' : r[j]? = some x := by simpa using h
    have := flatP_get r j x h'
    have e1 : (j + 1) * 2 = j * 2 + 1 + 1 := by omega
    have e2 : flatP (p :: r) = .string p.1 :: .string p.2 :: flatP r := rfl
    rw [e1, e2]
    exact this
theorem flatP_append (a b : PS) : flatP (a ++ b) = flatP a ++ flatP b := by simp [flatP]
theorem flatK_flatP (ps : PS) : flatK encP 2 ps.toArray = (flatP ps).toArray := by
  apply ext_get!
  · simp [flatP_len]
  · intro t ht
    have ht' : t < ps.length * 2 := by simpa using ht
    rw [get_flatK _ _ _ _ (by simpa using ht')]
    have hj : t / 2 < ps.length := by omega
    have hg := flatP_get ps (t / 2) ps[t / 2] (by simp [hj])
    have e1 : ps.toArray[t / 2]! = ps[t / 2] := by simp [hj]
    rw [e1]
    have hc : ((flatP ps).toArray)[t]! = ((flatP ps)[t]?).getD default := by
      rw [getElem!_def]
      simp only [List.getElem?_toArray]
      cases (flatP ps)[t]? <;> rfl
    rw [hc]
    generalize ps[t / 2] = x at *
    rcases Nat.mod_two_eq_zero_or_one t with h | h
    · have h2 : (flatP ps)[t]? = some (.string x.1) := by have := hg.1; rwa [show t / 2 * 2 = t by omega] at this
      rw [h, h2]
      rfl
    · have h2 : (flatP ps)[t]? = some (.string x.2) := by have := hg.2; rwa [show t / 2 * 2 + 1 = t by omega] at this
      rw [h, h2]
      rfl
theorem pairs_cell {e : TypeId} {w : World} {base g n cap : Nat} {ps : PS} (h : PairsAt e w base (.slice (some ⟨g, 0, none⟩) n cap) ps) (t : Nat) (u : Value) (ht : (flatP ps)[t]? = some u) : w.cell? ⟨g, t, none⟩ = some u ∧ w.frozen? ⟨g, t, none⟩ = false := by
  rcases h.2 with ⟨h, _⟩ | ⟨g', cap', cur, hv, hb, hg, hn, hm, hs, htk⟩
  · cases h
  · simp only [Value.slice.injEq, Option.some.injEq, Addr.mk.injEq, and_true] at hv
    obtain ⟨rfl, hn', rfl⟩ := hv
    refine ⟨?_, by simp [World.frozen?, hg]⟩
    have hlt : t < ps.length * 2 := by
      have := flatP_len ps
      rcases Nat.lt_or_ge t (flatP ps).length with h | h
      · omega
      · rw [List.getElem?_eq_none h] at ht; cases ht
    simp only [World.cell?, hg]
    simp only [Option.isSome_none, Bool.false_eq_true, if_false]
    rw [← htk, List.getElem?_take_of_lt hlt, Array.getElem?_toList] at ht
    exact ht
theorem pairs_form {e : TypeId} {w : World} {base : Nat} {v : Value} {ps : PS} (h : PairsAt e w base v ps) : (v = .slice none 0 0 ∧ ps = []) ∨ ∃ g cap, v = .slice (some ⟨g, 0, none⟩) ps.length cap ∧ base ≤ g ∧ g < w.heap.size ∧ ps.length ≤ cap ∧ cap ≤ maxLen := by
  rcases h.2 with ⟨h, h0⟩ | ⟨g, cap, cur, hv, hb, hg, hn, hm, hs, htk⟩
  · exact Or.inl ⟨h, List.length_eq_zero_iff.1 h0⟩
  · exact Or.inr ⟨g, cap, hv, hb, (Array.getElem?_eq_some_iff.1 hg).1, hn, hm⟩
theorem pairs_holds {e : TypeId} {w : World} {base g n cap : Nat} {ps : PS} (h : PairsAt e w base (.slice (some ⟨g, 0, none⟩) n cap) ps) : HoldsK encP 2 w g 0 ps.toArray := by
  unfold HoldsK
  rw [flatK_flatP]
  intro j hj
  have hj' : j < (flatP ps).length := by simpa using hj
  have := pairs_cell h j (flatP ps)[j] (by simp [hj'])
  simp only [Nat.zero_add, id_eq]
  rw [show ((flatP ps).toArray)[j]! = (flatP ps)[j] by simp [hj']]
  exact this
theorem heap_sortedP {w : World} {g m : Nat} {os : Array Obj} {cur : Array Value} {e : TypeId} {fr : Nat × Nat} (d : Array (ByteArray × ByteArray)) (hb : w.heap[g]? = some (.cells cur e fr)) :
    (sortWorldK encP 2 w g 0 m d os).heap[g]? = some (.cells (putCells id 0 (flatK encP 2 d) cur) e fr) := by
  have hg : g < w.heap.size := (Array.getElem?_eq_some_iff.1 hb).1
  unfold sortWorldK putRowK
  rw [heap_grow_old _ _ (by simpa using hg)]
  simp [putRow, mapBlock, Sort.ahead, Array.getElem?_modify, hb, onCells]
theorem take_putCellsP (cur : Array Value) (ts : List Value) (h : ts.length ≤ cur.size) : (putCells id 0 ts.toArray cur).toList.take ts.length = ts := by
  apply List.ext_getElem?
  intro j
  by_cases hj : j < ts.length
  · rw [List.getElem?_take_of_lt hj, Array.getElem?_toList]
    simp [putCells, hj, show j < cur.size by omega]
  · rw [List.getElem?_take_eq_none (by omega), List.getElem?_eq_none (by omega)]
theorem pairs_sorted {e : TypeId} {w : World} {base g n cap m : Nat} {ps : PS} {os : Array Obj} (h : PairsAt e w base (.slice (some ⟨g, 0, none⟩) n cap) ps) (d : PS) (hd : d.length = ps.length) :
    PairsAt e (sortWorldK encP 2 w g 0 m d.toArray os) base (.slice (some ⟨g, 0, none⟩) n cap) d := by
  rcases h.2 with ⟨h, _⟩ | ⟨g', cap', cur, hv, hb, hg, hn, hm, hs, htk⟩
  · cases h
  · simp only [Value.slice.injEq, Option.some.injEq, Addr.mk.injEq, and_true] at hv
    obtain ⟨rfl, rfl, rfl⟩ := hv
    refine ⟨flatP_len d, .inr ⟨g, cap, _, by rw [hd], hb, heap_sortedP _ hg, by omega, hm, by simp [putCells, hs], ?_⟩⟩
    rw [flatK_flatP, ← flatP_len]
    exact take_putCellsP cur _ (by rw [flatP_len, hs]; omega)
theorem below_sorted {w : World} {B g m : Nat} {os : Array Obj} (d : Array (ByteArray × ByteArray)) (hB : B ≤ g) (hW : B ≤ w.heap.size) : Below B w (sortWorldK encP 2 w g 0 m d os) := by
  refine ⟨rfl, rfl, rfl, by simp [sortWorldK, putRowK], fun k hk => ?_⟩
  unfold sortWorldK putRowK
  rw [heap_grow_old _ _ (by simp; omega)]
  have : g ≠ k := by omega
  simp [putRow, mapBlock, Sort.ahead, Array.getElem?_modify, this]
theorem pairs_below {e : TypeId} {w w' : World} {base : Nat} {v : Value} {ps : PS} (h : PairsAt e w base v ps) (hb : Below w.heap.size w w') : PairsAt e w' base v ps := ownsRow_below' h hb
theorem pairs_nil (e : TypeId) (w : World) (base : Nat) : PairsAt e w base (.slice none 0 0) [] := ⟨rfl, .inl ⟨rfl, rfl⟩⟩
theorem pairs_lower {e : TypeId} {w : World} {base base' : Nat} {v : Value} {ps : PS} (h : PairsAt e w base v ps) (hb : base' ≤ base) : PairsAt e w base' v ps := by
  refine ⟨h.1, ?_⟩
  rcases h.2 with h | ⟨g, cap, cur, hv, hb', rest⟩
  · exact Or.inl h
  · exact Or.inr ⟨g, cap, cur, hv, Nat.le_trans hb hb', rest⟩
/-- The print's word for such a row, at a structure S of two texts. -/
theorem pairs_R {S : Type} {f : S → ByteArray × ByteArray} {e : TypeId} {w : World} {base : Nat} {v : Value} {xs : List S} (h : PairsAt e w base v (xs.map f)) : (Kd.iso (Kd.pair Kd.string Kd.string) f).R e w base (fun _ => True) v xs := by
  have h' : w.ownsRow base e 2 v xs.length (flatP (xs.map f)) := by simpa [PairsAt] using h
  refine ⟨fun _ _ => trivial, flatP (xs.map f), h', ?_, ?_⟩
  · rw [flatP_len]; simp [Kd.iso, Kd.pair, Kd.string, Kd.scalar]
  · intro j x hx
    have := flatP_get (xs.map f) j (f x) (by simp [hx])
    refine ⟨[.string (f x).1], [.string (f x).2], ?_, rfl, rfl⟩
    show ((flatP (xs.map f)).drop (j * 2)).take 2 = _
    apply List.ext_getElem?
    intro i
    match i with
    | 0 => simpa [List.getElem?_take, List.getElem?_drop] using this.1
    | 1 => simpa [List.getElem?_take, List.getElem?_drop] using this.2
    | i + 2 => simp [List.getElem?_take]; omega
end Go.Proofs.YtbcgailnhgknnaaGreatDoorU8
end
section
set_option linter.unusedVariables false
set_option linter.unusedSimpArgs false
namespace Go.Proofs.YtbcgailnhgknnaaGreatDoorU8
open Go.RowKit Go.Proofs.YtbcgailnhgknnaaGreatDoorW.PrintWords
open Go Go.Sort
def nm (x : ByteArray × ByteArray) : List UInt8 := x.1.toList
def ltN (x y : ByteArray × ByteArray) : Bool := decide (nm x < nm y)
def cmpN (x y : ByteArray × ByteArray) : Int := if ltN x y then -1 else if ltN y x then 1 else 0
theorem nm_antisymm {x y : ByteArray × ByteArray} (h1 : ltN x y = false) (h2 : ltN y x = false) : nm x = nm y :=
  List.le_antisymm (List.not_lt.1 (of_decide_eq_false h2)) (List.not_lt.1 (of_decide_eq_false h1))
theorem ltN_trans {x y z : ByteArray × ByteArray} (h1 : ltN x y = true) (h2 : ltN y z = true) : ltN x z = true :=
  decide_eq_true (List.lt_trans (of_decide_eq_true h1) (of_decide_eq_true h2))
theorem ltN_irrefl (x : ByteArray × ByteArray) : ltN x x = false := decide_eq_false (List.lt_irrefl _)
theorem ltN_ntrans {x y z : ByteArray × ByteArray} (h1 : ltN x y = false) (h2 : ltN y z = false) : ltN x z = false := by
  cases h : ltN x z with
  | false => rfl
  | true =>
    exfalso
    cases hy : ltN y x with
    | true => rw [ltN_trans hy h] at h2; cases h2
    | false =>
      have e : nm x = nm y := nm_antisymm h1 hy
      unfold ltN at h h2
      rw [e] at h
      rw [h] at h2; cases h2
theorem ltOf_cmpN (x y : ByteArray × ByteArray) : ltOf cmpN x y = ltN x y := by
  unfold ltOf cmpN
  cases h : ltN x y with
  | true => simp
  | false => cases h2 : ltN y x <;> simp
theorem swoN : SWO (ltOf cmpN) where
  irrefl x := by rw [ltOf_cmpN]; exact ltN_irrefl x
  trans x y z h1 h2 := by rw [ltOf_cmpN] at *; exact ltN_trans h1 h2
  ntrans x y z h1 h2 := by rw [ltOf_cmpN] at *; exact ltN_ntrans h1 h2
def sortP (l : PS) : PS := l.mergeSort fun x y => !ltN y x
/-- Has a row two names side by side that are one? -/
def dupN : List (List UInt8) → Bool
  | x :: y :: r => (y == x) || dupN (y :: r)
  | _ => false
def dupP (l : PS) : Bool := dupN (l.map nm)
def Asc (l : PS) : Prop := l.Pairwise fun x y => ltN y x = false
theorem sortP_asc (l : PS) : Asc (sortP l) := by
  have h := List.pairwise_mergeSort (le := fun x y : ByteArray × ByteArray => !ltN y x) (fun a b c h1 h2 => by
    simp only [Bool.not_eq_true'] at *
    exact ltN_ntrans h2 h1) (fun a b => by
    cases h : ltN b a with
    | false => simp
    | true =>
      cases h2 : ltN a b with
      | false => simp
      | true => have := ltN_trans h h2; rw [ltN_irrefl] at this; cases this) l
  exact h.imp fun h => by simpa using h
theorem sortP_perm (l : PS) : (sortP l).Perm l := List.mergeSort_perm l _
theorem names_eq {a b : PS} (hp : a.Perm b) (ha : Asc a) (hb : Asc b) : a.map nm = b.map nm := by
  refine (hp.map nm).eq_of_pairwise (le := fun x y => ¬ y < x) (fun x y _ _ h1 h2 => List.le_antisymm (List.not_lt.1 h1) (List.not_lt.1 h2)) ?_ ?_
  · rw [List.pairwise_map]; exact ha.imp fun h => of_decide_eq_false h
  · rw [List.pairwise_map]; exact hb.imp fun h => of_decide_eq_false h
/-- Without two equal names side by side an ascending row ascends strictly. -/
theorem strict_of {l : PS} (ha : Asc l) (hd : dupP l = false) : l.Pairwise fun x y => ltN x y = true := by
  induction l with
  | nil => exact List.Pairwise.nil
  | cons x r ih =>
    have ha' := List.pairwise_cons.1 ha
    cases r with
    | nil => exact List.pairwise_singleton _ _
    | cons y r =>
      have hd' : (nm y == nm x) = false ∧ dupP (y :: r) = false := by
        simpa [dupP, dupN] using hd
      have hs := ih ha'.2 hd'.2
      have hxy : ltN x y = true := by
        cases h : ltN x y with
        | true => rfl
        | false =>
          have := nm_antisymm h (ha'.1 y (by simp))
          rw [this] at hd'
          simp at hd'
      refine List.pairwise_cons.2 ⟨fun z hz => ?_, hs⟩
      rcases List.mem_cons.1 hz with rfl | hz
      · exact hxy
      · exact ltN_trans hxy ((List.pairwise_cons.1 hs).1 z hz)
theorem sort_one {a b : PS} (hp : a.Perm b) (ha : Asc a) (hb : Asc b) : dupP a = dupP b ∧ (dupP a = false → a = b) := by
  have hn := names_eq hp ha hb
  have hd : dupP a = dupP b := by unfold dupP; rw [hn]
  refine ⟨hd, fun h => ?_⟩
  exact hp.eq_of_pairwise (fun x y _ _ h1 h2 => by have := ltN_trans h1 h2; rw [ltN_irrefl] at this; cases this) (strict_of ha h) (strict_of hb (hd ▸ h))
def badP (x : ByteArray × ByteArray) : Bool := !(nameB x.1) || ((x.2.toList == []) || !(u8valid (bytesOf x.2)))
def ofE (l : PS) : Int := if l.any badP then 3 else if dupP (sortP l) then 10 else 0
def ofL (l : PS) : PS := if l.any badP then [] else if dupP (sortP l) then [] else sortP l
/-- What a sort leaves. -/
theorem sorted_asc {d d' : Array (ByteArray × ByteArray)} (hp : PermIn 0 d.size d d') (hs : SortedIn (ltOf cmpN) 0 d.size d') : d'.toList.Perm d.toList ∧ Asc d'.toList := by
  have e1 : (d'.extract 0 d.size).toList = d'.toList := by rw [← hp.1]; simp
  have e2 : (d.extract 0 d.size).toList = d.toList := by simp
  refine ⟨by rw [← e1, ← e2]; exact hp.2.2, ?_⟩
  unfold Asc
  rw [List.pairwise_iff_getElem]
  intro i j hi hj hij
  have := hs i j (Nat.zero_le _) hij (by rw [← hp.1]; simpa using hj)
  rw [ltOf_cmpN] at this
  rw [getElem!_pos d' j (by simpa using hj), getElem!_pos d' i (by simpa using hi)] at this
  simpa using this
end Go.Proofs.YtbcgailnhgknnaaGreatDoorU8
end
section
set_option linter.unusedVariables false
set_option linter.unusedSimpArgs false
namespace Go.Proofs.YtbcgailnhgknnaaGreatDoorU8
open Go.RowKit Go.Proofs.YtbcgailnhgknnaaGreatDoorW.PrintWords
open Go Go.Sort
def itemL (x : ByteArray × ByteArray) : List UInt8 := x.1.data.toList ++ 61 :: quoteL x.2.data.toList
def bodyF (f : Bool) : PS → List UInt8
  | [] => []
  | x :: r => (if f then [] else [44]) ++ (itemL x ++ bodyF false r)
def textL (ps : PS) : List UInt8 := 123 :: (bodyF true ps ++ [125])
def textS (ps : PS) : ByteArray := ⟨(textL ps).toArray⟩
theorem bodyF_snoc (x : ByteArray × ByteArray) : ∀ (l : PS) (f : Bool), bodyF f (l ++ [x]) = bodyF f l ++ ((if l = [] ∧ f = true then [] else [44]) ++ itemL x)
  | [], f => by cases f <;> simp [bodyF]
  | y :: r, f => by
    have := bodyF_snoc x r false
    simp only [List.cons_append, bodyF, this]
    simp
theorem bodyF_len_take (f : Bool) : ∀ (l : PS) (k : Nat), (bodyF f (l.take k)).length ≤ (bodyF f l).length := by
  intro l
  induction l generalizing f with
  | nil => intro k; simp
  | cons x r ih =>
    intro k
    cases k with
    | zero => simp [bodyF]
    | succ k =>
      have := ih false k
      simp only [List.take_succ_cons, bodyF, List.length_append]
      omega
theorem itemL_le (f : Bool) : ∀ (l : PS) (x : ByteArray × ByteArray), x ∈ l → (itemL x).length ≤ (bodyF f l).length := by
  intro l
  induction l generalizing f with
  | nil => intro x h; cases h
  | cons y r ih =>
    intro x h
    simp only [bodyF, List.length_append]
    rcases List.mem_cons.1 h with rfl | h
    · omega
    · have := ih false x h
      omega
end Go.Proofs.YtbcgailnhgknnaaGreatDoorU8
end
