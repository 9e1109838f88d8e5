/- Proved here: what functions on this claim's road compute, each as a contract over the seat's program. Conditions: each theorem's own premises. -/
import Derived.Laws.BitsLemmas
import Derived.Lib.ConvBytes
import Derived.Lib.Bytes
import Derived.Lib.IndexBytes
import Derived.Lib.Builder
import Derived.Lib.AppendStr
import Derived.Laws.Externs
import Derived.Lib.Walk
import Derived.Lib.Slices
import Derived.Lib.VarintMem
import Derived.WalkKit
import Derived.Below
import Derived.Deep.Draws
import Derived.Deep.AppendLies
import Derived.Maps.AppendAt
import Derived.OwnWalk
import Derived.Laws.BytesArg
import Derived.Laws.MakeOwn
import Derived.Laws.OwnMore
import Derived.Deep.OwnRows
import Derived.Tactics
import Derived.Laws.Slices
import Derived.KernelRfl
import Derived.RowKit3
import Derived.Deep.LoopGhost
import Derived.Deep.QuietTactic
import Derived.BigQuiet
import Derived.WideLaws
import Derived.Deep.DeepCutAuto
import Derived.Deep.CutBlock
import Derived.Deep.RegionHeld3
import Derived.Laws.Rows
import Derived.ArgAppend
import Derived.Laws.IdiomCopy
import Derived.OrdersHeld
import Derived.RowKit
import Derived.Test.YtbcgailnhgknnaaGreatDoorW1
import Derived.Test.YtbcgailnhgknnaaGreatDoorProg
section
set_option linter.unusedVariables false
set_option linter.unusedSimpArgs false
namespace Go.Proofs.YtbcgailnhgknnaaGreatDoorU8
open Go.RowKit Go.Proofs.YtbcgailnhgknnaaGreatDoorW.PrintWords
open Go
def u8n (c : Int) : Int := if c < 128 then 1 else if 194 ≤ c ∧ c < 224 then 2 else if 224 ≤ c ∧ c < 240 then 3 else if 240 ≤ c ∧ c < 245 then 4 else 0
def lo1 (c : Int) : Int := if c = 224 then 160 else if c = 240 then 144 else 128
def hi1 (c : Int) : Int := if c = 237 then 159 else if c = 244 then 143 else 191
/-- May byte k > 0 stand there? -/
def u8ok (l : List Int) (k : Int) : Bool := decide ((if k = 1 then lo1 (rd l 0) else 128) ≤ rd l k) && decide (rd l k ≤ (if k = 1 then hi1 (rd l 0) else 191))
def u8at (l : List Int) (n k : Int) : Bool := decide (n ≤ k) || (decide ((l.length : Int) ≤ k) || u8ok l k)
/-- The bytes behind the first one that are there, up to n, may stand there. -/
def u8fits (l : List Int) (n : Int) : Bool := u8at l n 1 && (u8at l n 2 && u8at l n 3)
def u8lead (n : Int) : Int := if n = 2 then 192 else if n = 3 then 224 else if n = 4 then 240 else 0
def u8acc (l : List Int) (n : Int) : Nat → Int
  | 0 => rd l 0 - u8lead n
  | k + 1 => u8acc l n k * 64 + (rd l ((k : Int) + 1) - 128)
/-- (rune, bytes, number of the error). -/
def u8next (l : List Int) : Int × Int × Int :=
  if l.length = 0 then (0, 0, 6) else
  if u8n (rd l 0) = 0 then (0, 0, 3) else
  if u8fits l (u8n (rd l 0)) = false then (0, 0, 3) else
  if (l.length : Int) < u8n (rd l 0) then (0, 0, 11) else
  (u8acc l (u8n (rd l 0)) ((u8n (rd l 0)).toNat - 1), u8n (rd l 0), 0)
def isB (x : Int) : Bool := decide (0 ≤ x) && decide (x ≤ 255)
theorem rd_isB {l : List Int} (h : l.all isB = true) (i : Int) : 0 ≤ rd l i ∧ rd l i ≤ 255 := by
  unfold rd
  rw [List.getD_eq_getElem?_getD]
  cases e : l[i.toNat]? with
  | none => simp
  | some x =>
    have := List.all_eq_true.1 h x (List.mem_of_getElem? e)
    simp [isB] at this
    simpa using this
theorem u8n_cases (c : Int) : u8n c = 0 ∨ u8n c = 1 ∨ u8n c = 2 ∨ u8n c = 3 ∨ u8n c = 4 := by
  unfold u8n
  repeat' split
  all_goals simp
def u8walkF : Nat → List Int → Int × Int
  | 0, _ => (0, 0)
  | f + 1, l => if (u8next l).2.2 = 0 then ((u8walkF f (l.drop (u8next l).2.1.toNat)).1 + 1, (u8walkF f (l.drop (u8next l).2.1.toNat)).2 + (u8next l).2.1) else (0, 0)
/-- How many runes bytes have, and where they have none. -/
def u8walk (l : List Int) : Int × Int := u8walkF (l.length + 1) l
theorem u8next_ok {l : List Int} (h : (u8next l).2.2 = 0) : 1 ≤ (u8next l).2.1 ∧ (u8next l).2.1 ≤ 4 ∧ (u8next l).2.1 ≤ (l.length : Int) := by
  unfold u8next at h ⊢
  by_cases h0 : l.length = 0
  · rw [if_pos h0] at h; simp at h
  rw [if_neg h0] at h ⊢
  by_cases h1 : u8n (rd l 0) = 0
  · rw [if_pos h1] at h; simp at h
  rw [if_neg h1] at h ⊢
  by_cases h2 : u8fits l (u8n (rd l 0)) = false
  · rw [if_pos h2] at h; simp at h
  rw [if_neg h2] at h ⊢
  by_cases h3 : (l.length : Int) < u8n (rd l 0)
  · rw [if_pos h3] at h; simp at h
  rw [if_neg h3]
  have := u8n_cases (rd l 0)
  simp only
  omega
theorem u8walkF_more (f : Nat) : ∀ (g : Nat) (l : List Int), l.length < f → l.length < g → u8walkF f l = u8walkF g l := by
  induction f with
  | zero => intro g l h; omega
  | succ f ih =>
    intro g l h h'
    cases g with
    | zero => omega
    | succ g =>
      simp only [u8walkF]
      by_cases e : (u8next l).2.2 = 0
      · have := u8next_ok e
        rw [if_pos e, if_pos e, ih g _ (by rw [List.length_drop]; omega) (by rw [List.length_drop]; omega)]
      · rw [if_neg e, if_neg e]
theorem u8walk_step {l : List Int} (h : (u8next l).2.2 = 0) : u8walk l = ((u8walk (l.drop (u8next l).2.1.toNat)).1 + 1, (u8walk (l.drop (u8next l).2.1.toNat)).2 + (u8next l).2.1) := by
  have := u8next_ok h
  unfold u8walk
  rw [u8walkF, if_pos h, u8walkF_more l.length ((l.drop (u8next l).2.1.toNat).length + 1) _ (by rw [List.length_drop]; omega) (by omega)]
theorem u8walk_end {l : List Int} (h : (u8next l).2.2 ≠ 0) : u8walk l = (0, 0) := by
  unfold u8walk
  rw [u8walkF, if_neg h]
def u8valid (l : List Int) : Bool := (u8walk l).2 == (l.length : Int)
theorem bytesOf_isB (s : ByteArray) : (bytesOf s).all isB = true := by
  rw [List.all_eq_true]
  intro x hx
  unfold bytesOf at hx
  obtain ⟨u, _, rfl⟩ := List.mem_map.1 hx
  have := u.toNat_lt
  simp [isB]
  omega
theorem drop_isB {l : List Int} (h : l.all isB = true) (n : Nat) : (l.drop n).all isB = true := by
  rw [List.all_eq_true] at *
  exact fun x hx => h x (List.mem_of_mem_drop hx)
theorem take_isB {l : List Int} (h : l.all isB = true) (n : Nat) : (l.take n).all isB = true := by
  rw [List.all_eq_true] at *
  exact fun x hx => h x (List.mem_of_mem_take hx)
theorem conv_bytes {P : Program} (src dst e : TypeId) {u : TypeDesc} (hs : P.underlying src = some u) (hd : P.underlying dst = some (.slice e)) (he : P.underlying e = some (.int .u8)) (s : ByteArray) (hm : s.size ≤ 9223372036854775807) (W : World) :
    ∃ (A : Option Addr) (c : Nat) (W' : World), (convert src dst (.string s)).run P W = .ok (.slice A (bytesOf s).length c) W' ∧ (bytesOf s).length ≤ c ∧ Below W.heap.size W W' ∧ Kd.C (Kd.int .u8) W' A (bytesOf s).length (bytesOf s) := by
  have hl := bytesOf_length s
  refine ⟨some ⟨W.heap.size, 0, none⟩, grownCap W s.size 0 e, Lib.bytesWorld W e s, ?_, ?_, ?_, ?_⟩
  · rw [hl]; exact Lib.run_convert_string_bytes W src dst e s hs hd he
  · rw [hl]; exact grownCap_ge _ _ _ _
  · refine ⟨?_, ?_, ?_, ?_, fun i hi => Lib.bytesWorld_at_old W e s i hi⟩
    · simp [Lib.bytesWorld, World.freeze, World.alloc, World.drew, -World.alloc_eq, -World.drew_eq]
    · simp [Lib.bytesWorld, World.freeze, World.alloc, World.drew, -World.alloc_eq, -World.drew_eq]
    · simp [Lib.bytesWorld, World.freeze, World.alloc, World.drew, -World.alloc_eq, -World.drew_eq]
    · rw [Lib.bytesWorld_size]; omega
  · refine Kd.C_of_reads (h1 := fun _ => rfl) (d := (0 : Int)) ⟨rfl, by omega, fun _ => ⟨_, rfl, fun j hj => ?_⟩⟩
    rw [add_plain, Lib.bytesWorld_cell W e s j (by omega)]
    unfold bytesOf
    simp only [List.getD_eq_getElem?_getD, List.getElem?_map]
    rw [List.getElem?_eq_getElem (by rw [data_length]; omega)]
    rfl
end Go.Proofs.YtbcgailnhgknnaaGreatDoorU8
end
section
set_option linter.unusedVariables false
set_option linter.unusedSimpArgs false
namespace Go.Proofs.YtbcgailnhgknnaaGreatDoorU8
open Go.RowKit Go.Proofs.YtbcgailnhgknnaaGreatDoorW.PrintWords
open Go
def hexd (n : Int) : UInt8 := if n < 10 then (48 + n).toNat.toUInt8 else (87 + n).toNat.toUInt8
/-- What stands for a byte. -/
def qB (n : Int) : List UInt8 :=
  if n = 8 then [92, 98] else if n = 12 then [92, 102] else if n = 10 then [92, 110] else if n = 13 then [92, 114] else if n = 9 then [92, 116]
  else if n < 32 then [92, 117, 48, 48, hexd (n / 16), hexd (n % 16)] else if n = 34 ∨ n = 92 then [92, n.toNat.toUInt8] else [n.toNat.toUInt8]
def qL (l : List UInt8) : List UInt8 := l.flatMap fun c => qB (c.toNat : Int)
def quoteL (l : List UInt8) : List UInt8 := 34 :: (qL l ++ [34])
def quoteS (s : ByteArray) : ByteArray := ⟨(quoteL s.data.toList).toArray⟩
theorem qB_len (n : Int) : (qB n).length ≤ 6 := by unfold qB; (repeat' split) <;> simp
theorem qL_append (a b : List UInt8) : qL (a ++ b) = qL a ++ qL b := by simp [qL]
theorem qL_len : ∀ l : List UInt8, (qL l).length ≤ 6 * l.length
  | [] => by simp [qL]
  | c :: r => by
    have h := qL_len r
    have h2 := qB_len (c.toNat : Int)
    simp only [qL, List.flatMap_cons, List.length_append, List.length_cons] at *
    omega
theorem bt_get (s : ByteArray) (i : Nat) (h : i < s.size) : ∃ c : UInt8, s.data.toList[i]? = some c ∧ bt s (i : Int) = (c.toNat : Int) := by
  have h' : i < s.data.toList.length := by simpa using h
  refine ⟨s.data.toList[i], by simp, ?_⟩
  unfold bt
  rw [dif_pos (by simpa using h)]
  simp [ByteArray.getElem_eq_getElem_data]
theorem qL_take (s : ByteArray) (i : Nat) (h : i < s.size) : qL (s.data.toList.take (i + 1)) = qL (s.data.toList.take i) ++ qB (bt s (i : Int)) := by
  obtain ⟨c, hc, hb⟩ := bt_get s i h
  rw [hb, List.take_add_one, hc, qL_append]
  simp [qL]
theorem qIx (n : Int) (h0 : 0 ≤ n) (h1 : n ≤ 255) : Lib.indexByte [8, 12, 10, 13, 9] n.toNat.toUInt8 = if n = 8 then 0 else if n = 12 then 1 else if n = 10 then 2 else if n = 13 then 3 else if n = 9 then 4 else -1 := by
  obtain ⟨m, rfl⟩ := Int.eq_ofNat_of_zero_le h0
  have hm : m < 256 := by omega
  have : ∀ k : Fin 256, Lib.indexByte [8, 12, 10, 13, 9] ((k.val : Int)).toNat.toUInt8 = if (k.val : Int) = 8 then 0 else if (k.val : Int) = 12 then 1 else if (k.val : Int) = 10 then 2 else if (k.val : Int) = 13 then 3 else if (k.val : Int) = 9 then 4 else -1 := by decide +kernel
  exact this ⟨m, hm⟩
theorem ownsRow_below' {B : Nat} {e : TypeId} {k : Nat} {v : Value} {n : Nat} {xs : List Value} {w w' : World} (h : w.ownsRow B e k v n xs) (hb : Below w.heap.size w w') : w'.ownsRow B e k v n xs :=
  h.kept (row := none) ⟨hb.os, hb.tape, hb.output, hb.size, fun j hj _ => hb.block j hj⟩ (by
    rcases hv : v.ownBlock with _ | g
    · exact Or.inl rfl
    · exact Or.inr (by simp))
theorem builder_below {T e : TypeId} {B b : Nat} {p : Value} {bs : List Value} {w w' : World} (h : Lib.BuilderAt T e B b p bs w) (hb : Below w.heap.size w w') : Lib.BuilderAt T e B b p bs w' := by
  have hlt := h.lt
  obtain ⟨hB, v, hbk, hown, hne⟩ := h
  exact ⟨hB, v, by rw [hb.block b hlt]; exact hbk, ownsRow_below' hown hb, hne⟩
theorem isBuilder_below {T e : TypeId} {B b : Nat} {bs : List Value} {w w' : World} (h : Lib.IsBuilder T e B b bs w) (hb : Below w.heap.size w w') : Lib.IsBuilder T e B b bs w' :=
  h.elim (fun h => Or.inl (builder_below h hb)) (fun h => Or.inr (builder_below h hb))
theorem builder_snoc {T e : TypeId} {B b : Nat} {p : Value} {l : List UInt8} {n : Int} {w : World} (h : Lib.BuilderAt T e B b p (Lib.byteCells l ++ [.int .u8 n]) w) (h0 : 0 ≤ n) (h1 : n ≤ 255) : Lib.BuilderAt T e B b p (Lib.byteCells (l ++ [n.toNat.toUInt8])) w := by
  obtain ⟨m, rfl⟩ := Int.eq_ofNat_of_zero_le h0
  rw [Int.toNat_natCast, Lib.byteCells_snoc l (by omega)]
  exact h
theorem builder_str {T e : TypeId} {B b : Nat} {p : Value} {l : List UInt8} {s : ByteArray} {w : World} (h : Lib.BuilderAt T e B b p (Lib.byteCells l ++ Lib.strCells s) w) : Lib.BuilderAt T e B b p (Lib.byteCells (l ++ s.data.toList)) w := by
  rw [Lib.byteCells_append]
  exact h
theorem below_drewN {B : Nat} {a w : World} (h : Below B a w) : ∀ n, Below B a (w.drewN n)
  | 0 => h
  | n + 1 => (below_drewN h n).drew
theorem builder_drewN {T e : TypeId} {B b : Nat} {p : Value} {bs : List Value} {w : World} (h : Lib.BuilderAt T e B b p bs w) : ∀ n, Lib.BuilderAt T e B b p bs (w.drewN n)
  | 0 => h
  | n + 1 => (builder_drewN h n).drew
theorem ba_loop (s : ByteArray) : ∀ (n i : Nat) (r : List UInt8), s.size - i = n → ByteArray.toList.loop s i r = r.reverse ++ s.data.toList.drop i
  | 0, i, r, h => by
    have e : s.data.toList.length = s.size := Array.length_toList
    rw [ByteArray.toList.loop, if_neg (by omega), List.drop_eq_nil_of_le (by omega)]
    simp
  | n + 1, i, r, h => by
    have hi : i < s.size := by omega
    have e : s.data.toList.length = s.size := Array.length_toList
    have hi2 : i < s.data.size := hi
    rw [ByteArray.toList.loop, if_pos hi, ba_loop s n (i + 1) _ (by omega), List.drop_eq_getElem_cons (by omega : i < s.data.toList.length)]
    simp [ByteArray.get!, getElem!_pos s.data i hi2]
theorem ba_toList (s : ByteArray) : s.toList = s.data.toList := by
  rw [ByteArray.toList, ba_loop s _ 0 [] rfl]
  simp
theorem ba_nil (s : ByteArray) : s.toList = [] ↔ s.size = 0 := by
  rw [ba_toList, ← List.length_eq_zero_iff]
  have e : s.data.toList.length = s.size := Array.length_toList
  rw [e]
def inNameB (c : Int) : Bool := (decide (65 ≤ c) && decide (c ≤ 90)) || (decide (97 ≤ c) && decide (c ≤ 122)) || (decide (48 ≤ c) && decide (c ≤ 57)) || decide (c = 95)
def digitB (c : Int) : Bool := decide (48 ≤ c) && decide (c ≤ 57)
def nameB (s : ByteArray) : Bool := decide (0 < s.size) && (!digitB (bt s 0) && (List.range s.size).all fun i => inNameB (bt s (i : Int)))
end Go.Proofs.YtbcgailnhgknnaaGreatDoorU8
end
section
set_option linter.unusedVariables false
set_option linter.unusedSimpArgs false
namespace Go.Proofs.YtbcgailnhgknnaaGreatDoorU8
open Go.RowKit Go.Proofs.YtbcgailnhgknnaaGreatDoorW.PrintWords
open Go
theorem cell_lt {w : World} {p : Addr} {v : Value} (h : w.cell? p = some v) : p.block < w.heap.size := by
  rcases Nat.lt_or_ge p.block w.heap.size with h' | h'
  · exact h'
  · simp [World.cell?, Array.getElem?_eq_none h'] at h
theorem cell_alloc {w : World} {p : Addr} {v : Value} (h : w.cell? p = some v) (o : Obj) : (w.alloc o).cell? p = some v := by
  rw [World.cell?_alloc_lt _ _ p (cell_lt h)]
  exact h
theorem frozen_alloc {w : World} {p : Addr} {v : Value} (h : w.cell? p = some v) (hf : w.frozen? p = false) (o : Obj) : (w.alloc o).frozen? p = false := by
  rw [World.frozen?_alloc_old _ _ p (Nat.ne_of_lt (cell_lt h))]
  exact hf
theorem drewN_size (w : World) : ∀ n, (w.drewN n).heap.size = w.heap.size
  | 0 => rfl
  | n + 1 => drewN_size w n
end Go.Proofs.YtbcgailnhgknnaaGreatDoorU8
end
section
namespace Go.Proofs.YtbcgailnhgknnaaGreatDoor.PLabelParse
open Go.Proofs.YtbcgailnhgknnaaGreatDoorU8 Go.RowKit Go.Proofs.YtbcgailnhgknnaaGreatDoorW.PrintWords Go.Proofs.YtbcgailnhgknnaaGreatDoorW.PrintLast Go.Proofs.YtbcgailnhgknnaaGreatDoorW.PrintMore
attribute [local go_sem] max2_int min2_int max_two min_two max_three min_three max_four min_four   -- for this text's walks alone
set_option linter.unusedVariables false
set_option linter.unusedSimpArgs false
def errW : Option Int → Value
  | none => .nilIface
  | some c => .iface 25 (.int .i64 c)
theorem errW_none : errW none = .nilIface := rfl
theorem errW_some (c : Int) : errW (some c) = .iface 25 (.int .i64 c) := rfl
theorem info5 : (Tryz.prog.info? 5).map (fun i => (i.zero, i.size, i.bytes)) = some (some (.int .u8 0), 1, 1) := by kernel_rfl
theorem info48 : (Tryz.prog.info? 48).map (fun i => (i.zero, i.size, i.bytes)) = some (some (.agg #[(.string ⟨#[]⟩), (.string ⟨#[]⟩)]), 2, 32) := by kernel_rfl
structure S47 where
  f0 : ByteArray
  f1 : ByteArray
structure S48 where
  f0 : ByteArray
  f1 : ByteArray
def z48 : S48 := ⟨(⟨#[]⟩ : ByteArray), (⟨#[]⟩ : ByteArray)⟩
def k48 : Kd S48 := Kd.iso (Kd.pair Kd.string Kd.string) (fun x : S48 => (x.f0, x.f1))
theorem k48_open {w : World} {x : S48} {cs : List Value} (h : k48.K w x cs) : cs = [.string x.f0, .string x.f1] := by
  obtain ⟨_, _, rfl, rfl, rfl⟩ := h
  exact rfl
theorem k48_mkM (w : World) (base : Nat) (ok : Nat → Prop) (x : S48)  : k48.M w base ok x [.string x.f0, .string x.f1] := ⟨[.string x.f0], [.string x.f1], rfl, rfl, rfl⟩
def rd_T48 (xs : List S48) (i : Int) : S48 := xs.getD i.toNat z48
theorem at_T48 {w : World} {A : Option Addr} {n : Nat} {xs : List S48} (h : Kd.C k48 w A n xs) (i : Int) (h0 : 0 ≤ i) (h1 : i < n) : ∃ ad , A = some ad ∧ w.cell? (ad.add (i.toNat * 2)) = some (.string (rd_T48 xs i).f0) ∧ w.cell? ⟨(ad.add (i.toNat * 2)).block, (ad.add (i.toNat * 2)).off + 1, none⟩ = some (.string (rd_T48 xs i).f1) := by
  obtain ⟨ad, c, e, _, hK, hc0⟩ := Kd.C_get h z48 i h0 h1
  have hc : ∀ j u, c[j]? = some u → w.cell? (ad.add (i.toNat * 2 + j)) = some u := hc0
  obtain rfl := k48_open hK
  exact ⟨ad, e, hc 0 _ rfl, by rw [← add_field _ _ 1 (by omega)]; exact hc 1 _ rfl⟩
end Go.Proofs.YtbcgailnhgknnaaGreatDoor.PLabelParse
end
section
namespace Go.Proofs.YtbcgailnhgknnaaGreatDoor.PLabelParse
open Go.Proofs.YtbcgailnhgknnaaGreatDoorU8 Go.RowKit Go.Proofs.YtbcgailnhgknnaaGreatDoorW.PrintWords Go.Proofs.YtbcgailnhgknnaaGreatDoorW.PrintLast Go.Proofs.YtbcgailnhgknnaaGreatDoorW.PrintMore
attribute [local go_sem] max2_int min2_int max_two min_two max_three min_three max_four min_four   -- for this text's walks alone
set_option linter.unusedVariables false
set_option linter.unusedSimpArgs false
def larumref01_is.f (a0 : Int) (a1 : Int) (a2 : Int) : Option (Bool) := if (wrap64 (a0)) ≥ a1 then (some (decide ((wrap64 (a0)) ≤ a2))) else (some false)
set_option maxHeartbeats 8000000 in
set_option maxRecDepth 100000 in
theorem larumref01_is.calls (a0 : Int) (a1 : Int) (a2 : Int) (r : Bool) (w : World) (h : larumref01_is.f a0 a1 a2 = some r) :
    Calls Tryz.prog 62 #[.int .u8 a0, .int .i64 a1, .int .i64 a2] w fun e w' => e = .returned (.bool r) ∧ Drawn0 w w' := by
  have H : (if (wrap64 (a0)) ≥ a1 then (some (decide ((wrap64 (a0)) ≤ a2))) else (some false)) = some r := h
  clear h
  by_cases c4 : (wrap64 (a0)) ≥ a1
  · rw [if_pos c4] at H
    have c4b0 : decide (a1 ≤ (wrap64 (a0))) = true := decide_eq_true c4
    clear c4
    obtain rfl := Option.some.inj H
    go_enter Tryz.func62, Tryz.ntmps62
    go_wp2
    go_ret
    exact ⟨by first | rfl | (simp; done) | (simp [*]; done) | (simp [wrap64]; omega) | (refine congrArg (fun b_ => Ending.returned (Value.bool b_)) ?_; generalize ByteArray.toList _ = l_; cases l_ <;> rfl), by repeat (first | exact Drawn0.refl _ | apply Drawn0.step)⟩
  · rw [if_neg c4] at H
    have c4b0 : decide (a1 ≤ (wrap64 (a0))) = false := decide_eq_false c4
    clear c4
    obtain rfl := Option.some.inj H
    go_enter Tryz.func62, Tryz.ntmps62
    go_wp2
    go_ret
    exact ⟨by first | rfl | (simp; done) | (simp [*]; done) | (simp [wrap64]; omega) | (refine congrArg (fun b_ => Ending.returned (Value.bool b_)) ?_; generalize ByteArray.toList _ = l_; cases l_ <;> rfl), by repeat (first | exact Drawn0.refl _ | apply Drawn0.step)⟩
end Go.Proofs.YtbcgailnhgknnaaGreatDoor.PLabelParse
end
section
namespace Go.Proofs.YtbcgailnhgknnaaGreatDoor.PLabelParse
open Go.Proofs.YtbcgailnhgknnaaGreatDoorU8 Go.RowKit Go.Proofs.YtbcgailnhgknnaaGreatDoorW.PrintWords Go.Proofs.YtbcgailnhgknnaaGreatDoorW.PrintLast Go.Proofs.YtbcgailnhgknnaaGreatDoorW.PrintMore
attribute [local go_sem] max2_int min2_int max_two min_two max_three min_three max_four min_four   -- for this text's walks alone
set_option linter.unusedVariables false
set_option linter.unusedSimpArgs false
def larumref01_Letter.f (a0 : Int) : Option (Bool) := (larumref01_is.f a0 65 90).bind fun t139 => (if t139 = true then (some true) else ((larumref01_is.f a0 97 122).bind fun t140 => (some t140)))
set_option maxHeartbeats 8000000 in
set_option maxRecDepth 100000 in
theorem larumref01_Letter.calls (a0 : Int) (r : Bool) (w : World) (h : larumref01_Letter.f a0 = some r) :
    Calls Tryz.prog 40 #[.int .u8 a0] w fun e w' => e = .returned (.bool r) ∧ Drawn0 w w' := by
  have H : ((larumref01_is.f a0 65 90).bind fun t139 => (if t139 = true then (some true) else ((larumref01_is.f a0 97 122).bind fun t140 => (some t140)))) = some r := h
  clear h
  replace H := Option.bind_eq_some_iff.mp H
  obtain ⟨t139, A20, H⟩ := H
  replace H : (if t139 = true then (some true) else ((larumref01_is.f a0 97 122).bind fun t140 => (some t140))) = some r := H
  have A2 := Aside0.mk A20
  clear A20
  by_cases c3 : t139 = true
  · subst c3
    have H1 : (some true) = some r := by rw [if_pos rfl] at H; exact H
    clear H
    have H := H1
    clear H1
    obtain rfl := Option.some.inj H
    go_enter Tryz.func40, Tryz.ntmps40
    go_wp2_with (first | ((with_reducible refine gate_callee (f := 62) rfl ?_); refine goesL_ (some 4) rfl rfl Tryz.func62 (by kernel_rfl) rfl #[.int .u8 a0, .int .i64 65, .int .i64 90] rfl (by (try simp only [List.map_toArray, List.map_cons, List.map_nil]); first | done | rfl | (simp only [List.length_drop, List.length_take]; rfl)) ?_; (with_reducible refine (larumref01_is.calls a0 65 90 true _ A2.out).mono ?_); rintro e w' ⟨rfl, ⟨nd, rfl⟩⟩; refine ⟨_, rfl, ?_⟩))
    go_ret
    exact ⟨by first | rfl | (simp; done) | (simp [*]; done) | (simp [wrap64]; omega) | (refine congrArg (fun b_ => Ending.returned (Value.bool b_)) ?_; generalize ByteArray.toList _ = l_; cases l_ <;> rfl), by repeat (first | exact Drawn0.refl _ | apply Drawn0.step)⟩
  · replace c3 := Bool.eq_false_iff.mpr c3
    subst c3
    have H1 : ((larumref01_is.f a0 97 122).bind fun t140 => (some t140)) = some r := by rw [if_neg (show ¬ (false = true) by decide)] at H; exact H
    clear H
    have H := H1
    clear H1
    replace H := Option.bind_eq_some_iff.mp H
    obtain ⟨t140, A40, H⟩ := H
    replace H : (some t140) = some r := H
    have A4 := Aside0.mk A40
    clear A40
    obtain rfl := Option.some.inj H
    go_enter Tryz.func40, Tryz.ntmps40
    go_wp2_with (first | ((with_reducible refine gate_callee (f := 62) rfl ?_); refine goesL_ (some 4) rfl rfl Tryz.func62 (by kernel_rfl) rfl #[.int .u8 a0, .int .i64 65, .int .i64 90] rfl (by (try simp only [List.map_toArray, List.map_cons, List.map_nil]); first | done | rfl | (simp only [List.length_drop, List.length_take]; rfl)) ?_; (with_reducible refine (larumref01_is.calls a0 65 90 false _ A2.out).mono ?_); rintro e w' ⟨rfl, ⟨nd, rfl⟩⟩; refine ⟨_, rfl, ?_⟩) | (go_at_call 62; (with_reducible refine (larumref01_is.calls a0 97 122 t140 _ A4.out).mono ?_); rintro e w' ⟨rfl, ⟨nd, rfl⟩⟩))
    go_ret
    exact ⟨by first | rfl | (simp; done) | (simp [*]; done) | (simp [wrap64]; omega) | (refine congrArg (fun b_ => Ending.returned (Value.bool b_)) ?_; generalize ByteArray.toList _ = l_; cases l_ <;> rfl), by repeat (first | exact Drawn0.refl _ | apply Drawn0.step)⟩
end Go.Proofs.YtbcgailnhgknnaaGreatDoor.PLabelParse
end
section
namespace Go.Proofs.YtbcgailnhgknnaaGreatDoor.PLabelParse
open Go.Proofs.YtbcgailnhgknnaaGreatDoorU8 Go.RowKit Go.Proofs.YtbcgailnhgknnaaGreatDoorW.PrintWords Go.Proofs.YtbcgailnhgknnaaGreatDoorW.PrintLast Go.Proofs.YtbcgailnhgknnaaGreatDoorW.PrintMore
attribute [local go_sem] max2_int min2_int max_two min_two max_three min_three max_four min_four   -- for this text's walks alone
set_option linter.unusedVariables false
set_option linter.unusedSimpArgs false
def larumref01_Digit.f (a0 : Int) : Option (Bool) := (larumref01_is.f a0 48 57).bind fun t141 => (some t141)
set_option maxHeartbeats 8000000 in
set_option maxRecDepth 100000 in
theorem larumref01_Digit.calls (a0 : Int) (r : Bool) (w : World) (h : larumref01_Digit.f a0 = some r) :
    Calls Tryz.prog 41 #[.int .u8 a0] w fun e w' => e = .returned (.bool r) ∧ Drawn0 w w' := by
  have H : ((larumref01_is.f a0 48 57).bind fun t141 => (some t141)) = some r := h
  clear h
  replace H := Option.bind_eq_some_iff.mp H
  obtain ⟨t141, A20, H⟩ := H
  replace H : (some t141) = some r := H
  have A2 := Aside0.mk A20
  clear A20
  obtain rfl := Option.some.inj H
  go_enter Tryz.func41, Tryz.ntmps41
  go_wp2_with (first | ((with_reducible refine gate_callee (f := 62) rfl ?_); refine goesL_ (some 4) rfl rfl Tryz.func62 (by kernel_rfl) rfl #[.int .u8 a0, .int .i64 48, .int .i64 57] rfl (by (try simp only [List.map_toArray, List.map_cons, List.map_nil]); first | done | rfl | (simp only [List.length_drop, List.length_take]; rfl)) ?_; (with_reducible refine (larumref01_is.calls a0 48 57 t141 _ A2.out).mono ?_); rintro e w' ⟨rfl, ⟨nd, rfl⟩⟩; refine ⟨_, rfl, ?_⟩))
  go_ret
  exact ⟨by first | rfl | (simp; done) | (simp [*]; done) | (simp [wrap64]; omega) | (refine congrArg (fun b_ => Ending.returned (Value.bool b_)) ?_; generalize ByteArray.toList _ = l_; cases l_ <;> rfl), by repeat (first | exact Drawn0.refl _ | apply Drawn0.step)⟩
end Go.Proofs.YtbcgailnhgknnaaGreatDoor.PLabelParse
end
