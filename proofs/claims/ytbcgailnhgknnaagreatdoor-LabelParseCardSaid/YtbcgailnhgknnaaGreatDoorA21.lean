/- Proved here: what functions on this claim's road compute, each as a contract over the seat's program. Conditions: each theorem's own premises. -/
import Derived.Shelf.Abstract
import Derived.Test.YtbcgailnhgknnaaGreatDoorA11
import Derived.Test.YtbcgailnhgknnaaGreatDoorA16
import Derived.Test.YtbcgailnhgknnaaGreatDoorA01
import Derived.Test.YtbcgailnhgknnaaGreatDoorA20
section
namespace Go.Proofs.YtbcgailnhgknnaaGreatDoor.PLabelParse
open Go.Proofs.YtbcgailnhgknnaaGreatDoorU8 Go.RowKit Go.Proofs.YtbcgailnhgknnaaGreatDoorW.PrintWords Go.Proofs.YtbcgailnhgknnaaGreatDoorW.PrintLast Go.Proofs.YtbcgailnhgknnaaGreatDoorW.PrintMore
attribute [local go_sem] max2_int min2_int max_two min_two max_three min_three max_four min_four   -- for this text's walks alone
set_option linter.unusedVariables false
set_option linter.unusedSimpArgs false
theorem rpair_info : (Tryz.prog.info? 48).map (fun i => (i.zero, i.size, i.bytes)) = some (some (.agg #[.string ⟨#[]⟩, .string ⟨#[]⟩]), 2, 32) := by kernel_rfl
theorem label_Set_Pairs.own (base : Nat) (v : Value) (ps : PS) (hl : ps.length ≤ 1099511627776) (w : World) (h : PairsAt 47 w base v ps) :
    Calls Tryz.prog 21 #[.agg #[v]] w fun e w' => ∃ v', e = .returned v' ∧ PairsAt 47 w' w.heap.size v' ps ∧ Below w.heap.size w w' := by
  have HC := Aside0.mk (fun W hW => slices_Clone.own base v ps hl W (pairs_below h hW))
  have hf : ∃ A n c, v = .slice A n c := by
    rcases pairs_form h with ⟨rfl, _⟩ | ⟨g, cap, rfl, _⟩
    · exact ⟨_, _, _, rfl⟩
    · exact ⟨_, _, _, rfl⟩
  obtain ⟨A, n, c, rfl⟩ := hf
  have hb0 : Below w.heap.size w (w.alloc (.cells #[.slice A n c] 24)) := (Below.refl _ w).alloc (Nat.le_refl _) _
  have HB0 := Aside0.mk hb0
  clear h hl hb0
  go_enter Tryz.func21, Tryz.ntmps21
  go_wp2_with fail
  refine (HC.out _ (by exact HB0.out)).mono ?_
  rintro e w2 ⟨v2, rfl, hP2, hB2⟩
  have HP2 := Aside0.mk hP2
  have HB2 := Aside0.mk (HB0.out.trans (hB2.mono HB0.out.size))
  clear hP2 hB2
  go_wp2
  go_ret
  exact ⟨_, rfl, pairs_lower HP2.out (by simp), HB2.out⟩
def PlainPost (ps : PS) (w : World) (e : Ending) (w' : World) : Prop := ∃ v, e = .returned v ∧ PairsAt 48 w' w.heap.size v ps ∧ Below w.heap.size w w'
set_option maxHeartbeats 2000000 in
set_option maxRecDepth 100000 in
theorem larumlaw14_Plain.own (base : Nat) (v : Value) (ps : PS) (hl : ps.length ≤ 1099511627776) (w : World) (h : PairsAt 47 w base v ps) :
    Calls Tryz.prog 9 #[.agg #[v]] w (PlainPost ps w) := by
  have HC := Aside0.mk (fun W hW => label_Set_Pairs.own base v ps hl W (pairs_below h hW))
  have hf : ∃ A n c, v = .slice A n c := by
    rcases pairs_form h with ⟨rfl, _⟩ | ⟨g, cap, rfl, _⟩
    · exact ⟨_, _, _, rfl⟩
    · exact ⟨_, _, _, rfl⟩
  obtain ⟨A, n, c, rfl⟩ := hf
  have hb0 : Below w.heap.size w (w.alloc (.cells #[.slice A n c] 24)) := (Below.refl _ w).alloc (Nat.le_refl _) _
  have HB0 := Aside0.mk hb0
  have HLN := Aside0.mk hl
  clear h hl hb0
  go_enter Tryz.func9, Tryz.ntmps9
  go_wp2_with fail
  refine (HC.out _ (by exact HB0.out)).mono ?_
  rintro e w2 ⟨v2, rfl, hP2, hB2⟩
  have HP2 := Aside0.mk hP2
  have HB2 := Aside0.mk (HB0.out.trans (hB2.mono HB0.out.size))
  clear hP2 hB2 HC HB0
  rcases pairs_form HP2.out with ⟨rfl, rfl⟩ | ⟨g, cap, rfl, hb, hg, hc, hm⟩
  · go_wp2_with fail
    go_loop [9, 3] (fun i o => i = .int .i64 0 ∧ o = .slice none 0 0) (fun _ _ => 0)
    case atStart => exact ⟨rfl, rfl⟩
    case round =>
      obtain ⟨rfl, rfl⟩ := hrel
      go_wp2
      go_ret
      exact ⟨_, rfl, pairs_nil _ _ _, HB2.out⟩
  · unfold maxLen at hm
    go_wp2_with fail
    go_loopw [9, 3] (fun i o wr => ∃ k : Nat, i = .int .i64 k ∧ k ≤ ps.length ∧ Aside0 (PairsAt 48 wr w2.heap.size o (ps.take k)) ∧ Aside0 (Below w2.heap.size w2 wr)) (fun i _ _ => ps.length - (intOf i).toNat)
    case atStart => exact ⟨0, rfl, Nat.zero_le _, ⟨pairs_nil _ _ _⟩, ⟨Below.refl _ _⟩⟩
    case round =>
      obtain ⟨k, rfl, hk, HO, HW⟩ := hrel
      by_cases hlt : k < ps.length
      · have hx := flatP_get ps k ps[k] (by simp [hlt])
        have c1 := (pairs_cell (pairs_below HP2.out HW.out) _ _ hx.1).1
        have c2 := (pairs_cell (pairs_below HP2.out HW.out) _ _ hx.2).1
        have HT := Aside0.mk (show ps.take (k + 1) = ps.take k ++ [ps[k]] from List.take_succ_eq_append_getElem hlt)
        generalize ps[k] = x at *
        have q3 : ((k : Int) < (ps.length : Int)) = True := eq_true (by omega)
        have hkl : (k : Int) + 1 ≤ (ps.length : Int) := by omega
        have hkm : ps.length ≤ 9223372036854775807 := by omega
        have HK := Aside0.mk hlt
        obtain ⟨i0, hi, hz0, hz1, hz2⟩ := info_parts rpair_info
        have htl : (ps.take k).length = k := by rw [List.length_take]; omega
        have hown0 := HO.out
        unfold PairsAt at hown0
        rw [htl] at hown0
        have HOW := Aside0.mk ((hown0.alloc (.cells #[.string x.1, .string x.2] 47)).alloc (.cells #[.string x.1, .string x.2] 48))
        have HBS := Aside0.mk (show w2.heap.size ≤ wr.heap.size from HW.out.size)
        clear hx hlt htl hown0
        go_wp2_with (at_builtin; refine wpList_append_own _ rfl _ _ 30 rfl w2.heap.size 48 i0 _ 2 32 Tryz.underlying30 hi hz0 hz1 hz2 rfl (by decide) _ _ _ rfl HOW.out ⟨wr.heap.size + 1, 0, none⟩ 1 1 [.string x.1, .string x.2] rfl rfl ?c1 ?c2 ?c3 ?c4 ?c5 ?_)
        case c1 =>
          intro j u hj
          match j, hj with
          | 0, hj => simp at hj; subst hj; simp [Addr.add]
          | 1, hj => simp at hj; subst hj; simp [Addr.add]
          | j + 2, hj => simp at hj
        case c2 => intro u hu; simp at hu; rcases hu with rfl | rfl <;> rfl
        case c3 => have := HLN.out; have := HK.out; unfold maxLen; omega
        case c4 => have := HLN.out; have := HK.out; omega
        case c5 => have := HBS.out; simp; omega
        intro v3 w3 hown3 hgrow3 _
        have HP3 := Aside0.mk (show PairsAt 48 w3 w2.heap.size v3 (ps.take (k + 1)) by
          have hl2 : (ps.take k ++ [x]).length = k + 1 := by simp only [List.length_append, List.length_cons, List.length_nil, List.length_take]; have := HK.out; omega
          unfold PairsAt; rw [HT.out, flatP_append, hl2]; simpa [flatP, encP] using hown3)
        have HW3 := Aside0.mk (show Below w2.heap.size w2 w3 from ((HW.out.alloc (by have := HBS.out; omega) _).alloc (by have := HBS.out; simp; omega) _).grown hgrow3 (by have := HBS.out; simp; omega) (fun q hq => (HOW.out.lt q hq).1))
        clear hown3 hgrow3 hi hz0 hz1 hz2 c1 c2
        go_wp2
        exact ⟨⟨k + 1, by go_num, by have := HK.out; omega, HP3, HW3⟩, by have := HK.out; simp [intOf]; omega⟩
      · have hke : k = ps.length := by omega
        subst hke
        have htk : ps.take ps.length = ps := List.take_of_length_le (Nat.le_refl _)
        rw [htk] at HO
        have q3 : ((ps.length : Int) < (ps.length : Int)) = False := eq_false (by omega)
        clear htk hlt
        go_wp2
        go_ret
        exact ⟨_, rfl, pairs_lower HO.out HB2.out.size, HB2.out.trans (HW.out.mono HB2.out.size)⟩
end Go.Proofs.YtbcgailnhgknnaaGreatDoor.PLabelParse
end
section
set_option linter.unusedVariables false
set_option linter.unusedSimpArgs false
namespace Go.Proofs.YtbcgailnhgknnaaGreatDoorU8
open Go.RowKit Go.Proofs.YtbcgailnhgknnaaGreatDoorW.PrintWords
open Go
def KeepT (T e : TypeId) (w w' : World) : Prop := ∀ (q : Nat) (cs : Array Value) (t : TypeId) (fr : Nat × Nat), w.heap[q]? = some (Obj.cells cs t fr) → t ≠ T → t ≠ e → w'.heap[q]? = some (Obj.cells cs t fr)
theorem KeepT.refl (T e : TypeId) (w : World) : KeepT T e w w := fun _ _ _ _ h _ _ => h
theorem KeepT.trans {T e : TypeId} {a b c : World} (h : KeepT T e a b) (k : KeepT T e b c) : KeepT T e a c := fun q cs t fr hq h1 h2 => k q cs t fr (h q cs t fr hq h1 h2) h1 h2
theorem KeepT.set {T e : TypeId} {w : World} {b o : Nat} {cs : Array Value} {fr : Nat × Nat} (hb : w.heap[b]? = some (.cells cs T fr)) (u : Value) : KeepT T e w (w.setCell ⟨b, o, none⟩ u) := by
  intro q cs' t fr' hq h1 _
  have : q ≠ b := fun e => by subst e; rw [hb] at hq; cases hq; exact h1 rfl
  rw [Below.heap_setCell w _ u q this]
  exact hq
theorem KeepT.alloc (T e : TypeId) (w : World) (o : Obj) : KeepT T e w (w.alloc o) := by
  intro q cs t fr hq _ _
  rw [Below.heap_alloc w o q (Array.getElem?_eq_some_iff.1 hq).1]
  exact hq
theorem KeepT.drewN (T e : TypeId) (w : World) (n : Nat) : KeepT T e w (w.drewN n) := fun q cs t fr hq _ _ => hq
theorem KeepT.grown {T e : TypeId} {w w' : World} {B n : Nat} {v : Value} {xs : List Value} (hown : w.ownsRow B e 1 v n xs) (hg : w.grownBy w' v.ownBlock) : KeepT T e w w' := by
  intro q cs t fr hq _ h2
  have hlt := (Array.getElem?_eq_some_iff.1 hq).1
  rw [hg.block q hlt (fun ek => by
    rcases hown.2 with ⟨rfl, _⟩ | ⟨g, cap, cur, rfl, _, hb, _⟩
    · simp [Value.ownBlock] at ek
    · have : q = g := by simpa [Value.ownBlock] using ek
      subst this
      rw [hb] at hq
      cases hq
      exact h2 rfl)]
  exact hq
theorem KeepT.below {T e : TypeId} {w w' : World} (h : Below w.heap.size w w') : KeepT T e w w' := by
  intro q cs t fr hq _ _
  rw [h.block q (Array.getElem?_eq_some_iff.1 hq).1]
  exact hq
theorem KeepT.cell {T e : TypeId} {w w' : World} (h : KeepT T e w w') {q o : Nat} {cs : Array Value} {t : TypeId} {fr : Nat × Nat} (hq : w.heap[q]? = some (.cells cs t fr)) (h1 : t ≠ T) (h2 : t ≠ e) : w'.cell? ⟨q, o, none⟩ = w.cell? ⟨q, o, none⟩ := by
  simp only [World.cell?, hq, h q cs t fr hq h1 h2]
end Go.Proofs.YtbcgailnhgknnaaGreatDoorU8
end
section
namespace Go.Proofs.YtbcgailnhgknnaaGreatDoor.PLabelParse
open Go.Proofs.YtbcgailnhgknnaaGreatDoorU8 Go.RowKit Go.Proofs.YtbcgailnhgknnaaGreatDoorW.PrintWords Go.Proofs.YtbcgailnhgknnaaGreatDoorW.PrintLast Go.Proofs.YtbcgailnhgknnaaGreatDoorW.PrintMore
attribute [local go_sem] max2_int min2_int max_two min_two max_three min_three max_four min_four   -- for this text's walks alone
set_option linter.unusedVariables false
set_option linter.unusedSimpArgs false
theorem builder_size : (Tryz.prog.info? 60).map (·.size) = some 2 := by kernel_rfl
theorem builder_lies : liesAt Tryz.prog Tryz.prog.depth 60 (2 / Tryz.prog.cellsOf 60) 0 60 1 = true := by kernel_rfl
theorem builder_byte : (Tryz.prog.info? 5).map (fun i => (i.zero, i.size, i.bytes)) = some (some (.int .u8 0), 1, 1) := by kernel_rfl
set_option maxHeartbeats 2000000 in
set_option maxRecDepth 100000 in
theorem strings_Builder_copyCheck_used.own (b : Nat) (w : World) (h0 : w.cell? ⟨b, 0, none⟩ = some (.pointer (some ⟨b, 0, none⟩))) :
    Calls Tryz.prog 52 #[.pointer (some ⟨b, 0, none⟩)] w fun e w' => e = .returned (.tuple #[]) ∧ w' = w := by
  obtain ⟨j, hj, _⟩ := Option.map_eq_some_iff.1 builder_size
  go_enter Tryz.func52, Tryz.ntmps52
  go_wp2
  rw [Lib.run_neq_ptr_same w _ Tryz.underlying57 hj]
  go_wp2
  go_end0
  exact ⟨rfl, rfl⟩
set_option maxHeartbeats 2000000 in
set_option maxRecDepth 100000 in
theorem strings_Builder_copyCheck_fresh.own (b : Nat) (w : World) (h0 : w.cell? ⟨b, 0, none⟩ = some (.pointer none)) (hsh : w.shape? b = some (60, 2)) (hfz : w.frozen? ⟨b, 0, none⟩ = false) :
    Calls Tryz.prog 52 #[.pointer (some ⟨b, 0, none⟩)] w fun e w' => e = .returned (.tuple #[]) ∧ w' = w.setCell ⟨b, 0, none⟩ (.pointer (some ⟨b, 0, none⟩)) := by
  obtain ⟨j, hj, hjs⟩ := Option.map_eq_some_iff.1 builder_size
  go_enter Tryz.func52, Tryz.ntmps52
  go_wp2
  rw [Lib.run_to_unsafe w ⟨b, 0, none⟩ Tryz.underlying57 Tryz.underlying107 hj (by rw [hjs]; decide) hsh (Nat.zero_lt_succ 1)]
  simp only [Result.andThen]
  rw [Oper.upon_value]
  go_wp2
  rw [run_callFunc_extern Tryz.func76 (by kernel_rfl) (by kernel_rfl) (by kernel_rfl) (e := Extern.AbiNoEscape.same) (by kernel_rfl)]
  rw [Lib.run_noEscape]
  simp only [Result.andThen]
  rw [Oper.upon_value]
  go_wp2
  rw [Lib.run_from_unsafe w ⟨b, 0, none⟩ Tryz.underlying107 Tryz.underlying57 hj hsh builder_lies]
  simp only [Result.andThen]
  rw [Oper.upon_value]
  go_wp2
  go_end0
  exact ⟨rfl, rfl⟩
theorem strings_Builder_copyCheck.own2 (B b : Nat) (bs : List Value) (w : World) (h : Lib.IsBuilder 60 5 B b bs w) :
    Calls Tryz.prog 52 #[.pointer (some ⟨b, 0, none⟩)] w fun e w' => e = .returned (.tuple #[]) ∧ (Lib.BuilderAt 60 5 B b (.pointer (some ⟨b, 0, none⟩)) bs w' ∧ Below B w w') ∧ KeepT 60 5 w w' := by
  rcases h with h | h
  · refine (strings_Builder_copyCheck_fresh.own b w h.cell0 h.shape h.frozen0).mono ?_
    rintro e w' ⟨rfl, rfl⟩
    have hk := h
    obtain ⟨_, v, hbk, _⟩ := hk
    exact ⟨rfl, ⟨h.used _, (Below.refl B w).setCell (p := ⟨b, 0, none⟩) h.1 _⟩, KeepT.set hbk _⟩
  · refine (strings_Builder_copyCheck_used.own b w h.cell0).mono ?_
    rintro e w' ⟨rfl, rfl⟩
    exact ⟨rfl, ⟨h, Below.refl B _⟩, KeepT.refl _ _ _⟩
theorem strings_Builder_copyCheck.own (B b : Nat) (bs : List Value) (w : World) (h : Lib.IsBuilder 60 5 B b bs w) :
    Calls Tryz.prog 52 #[.pointer (some ⟨b, 0, none⟩)] w fun e w' => e = .returned (.tuple #[]) ∧ (Lib.BuilderAt 60 5 B b (.pointer (some ⟨b, 0, none⟩)) bs w' ∧ Below B w w') :=
  (strings_Builder_copyCheck.own2 B b bs w h).mono fun _ _ ⟨he, hp, _⟩ => ⟨he, hp⟩
end Go.Proofs.YtbcgailnhgknnaaGreatDoor.PLabelParse
end
section
namespace Go.Proofs.YtbcgailnhgknnaaGreatDoor.PLabelParse
open Go.Proofs.YtbcgailnhgknnaaGreatDoorU8 Go.RowKit Go.Proofs.YtbcgailnhgknnaaGreatDoorW.PrintWords Go.Proofs.YtbcgailnhgknnaaGreatDoorW.PrintLast Go.Proofs.YtbcgailnhgknnaaGreatDoorW.PrintMore
attribute [local go_sem] max2_int min2_int max_two min_two max_three min_three max_four min_four   -- for this text's walks alone
set_option linter.unusedVariables false
set_option linter.unusedSimpArgs false
set_option maxHeartbeats 2000000 in
set_option maxRecDepth 100000 in
theorem strings_Builder_WriteByte.own2 (B b : Nat) (bs : List Value) (c : Int) (w : World) (h : Lib.IsBuilder 60 5 B b bs w) (hlen : bs.length + 1 ≤ 140737488355328) (hBw : B ≤ w.heap.size) :
    Calls Tryz.prog 31 #[.pointer (some ⟨b, 0, none⟩), .int .u8 c] w fun e w' => e = .returned .nilIface ∧ (Lib.BuilderAt 60 5 B b (.pointer (some ⟨b, 0, none⟩)) (bs ++ [.int .u8 c]) w' ∧ Below B w w') ∧ KeepT 60 5 w w' := by
  obtain ⟨i0, hi, hz0, hz1, hz2⟩ := info_parts builder_byte
  go_enter Tryz.func31, Tryz.ntmps31
  go_wp2_with (go_at_call 52; refine (strings_Builder_copyCheck.own2 B b bs _ h).mono ?_)
  rintro e w1 ⟨rfl, ⟨h1, hb1⟩, hk1⟩
  have HK1 := Aside0.mk hk1
  clear hk1
  obtain ⟨hB, v, hbk, hown, hne⟩ := h1
  have c0 : w1.cell? ⟨b, 0, none⟩ = some (.pointer (some ⟨b, 0, none⟩)) := by rw [Lib.cell_of_heap hbk]; rfl
  have c1 : w1.cell? ⟨b, 1, none⟩ = some v := by rw [Lib.cell_of_heap hbk]; rfl
  go_wp2_with (at_builtin; refine wpList_append_own _ rfl _ _ 58 rfl B 5 i0 (.int .u8 0) 1 1 Tryz.underlying58 hi hz0 hz1 hz2 rfl (by decide) _ _ _ rfl (hown.alloc _) ⟨w1.heap.size, 0, none⟩ 1 1 [.int .u8 c] rfl rfl ?c1 ?c2 ?c3 ?c4 ?c5 ?_)
  case c1 =>
    intro j u hj
    match j, hj with
    | 0, hj => simp at hj; subst hj; simp [Addr.add]
  case c2 => intro u hu; simp at hu; subst hu; rfl
  case c3 => unfold maxLen; omega
  case c4 => omega
  case c5 => have := hb1.size; simp; omega
  intro v' w2 hown' hgrow _
  have hlt : b < w1.heap.size := by
    rcases Nat.lt_or_ge b w1.heap.size with h' | h'
    · exact h'
    · simp [Array.getElem?_eq_none h'] at hbk
  have hb2 : w2.heap[b]? = some (.cells #[.pointer (some ⟨b, 0, none⟩), v] 60 (0, 0)) := by
    rw [hgrow.block b (by simp; omega) (fun e => hne e.symm), Lib.alloc_old w1 _ b hlt]
    exact hbk
  have d0 : w2.cell? ⟨b, 0, none⟩ = some (.pointer (some ⟨b, 0, none⟩)) := by rw [Lib.cell_of_heap hb2]; rfl
  have d1 : w2.cell? ⟨b, 1, none⟩ = some v := by rw [Lib.cell_of_heap hb2]; rfl
  have f1 : w2.frozen? ⟨b, 1, none⟩ = false := Lib.frozen_of_heap hb2 1
  obtain ⟨g, cap, rfl⟩ : ∃ g cap, v' = .slice (some ⟨g, 0, none⟩) (bs.length + 1) cap := by
    rcases hown'.2 with ⟨_, h0⟩ | ⟨g, cap, cur, hv, _⟩
    · omega
    · exact ⟨g, cap, hv⟩
  go_wp2
  go_ret
  refine ⟨rfl, ⟨?_, ?_⟩, ?_⟩
  · exact Lib.BuilderAt.put (T := 60) (e := 5) hB hb2 (bs' := bs ++ [.int .u8 c]) (by simpa using hown') (by decide)
  · exact ((hb1.alloc (by have := hb1.size; omega) _).grown hgrow (by have := hb1.size; simp; omega) (fun k hk => (hown.lt k hk).1)).setCell (p := ⟨b, 1, none⟩) hB _
  · exact ((HK1.out.trans (KeepT.alloc _ _ _ _)).trans (KeepT.grown (hown.alloc _) hgrow)).trans (KeepT.set hb2 _)
theorem strings_Builder_WriteByte.own (B b : Nat) (bs : List Value) (c : Int) (w : World) (h : Lib.IsBuilder 60 5 B b bs w) (hlen : bs.length + 1 ≤ 140737488355328) (hBw : B ≤ w.heap.size) :
    Calls Tryz.prog 31 #[.pointer (some ⟨b, 0, none⟩), .int .u8 c] w fun e w' => e = .returned .nilIface ∧ (Lib.BuilderAt 60 5 B b (.pointer (some ⟨b, 0, none⟩)) (bs ++ [.int .u8 c]) w' ∧ Below B w w') :=
  (strings_Builder_WriteByte.own2 B b bs c w h hlen hBw).mono fun _ _ ⟨he, hp, _⟩ => ⟨he, hp⟩
end Go.Proofs.YtbcgailnhgknnaaGreatDoor.PLabelParse
end
section
namespace Go.Proofs.YtbcgailnhgknnaaGreatDoor.PLabelParse
open Go.Proofs.YtbcgailnhgknnaaGreatDoorU8 Go.RowKit Go.Proofs.YtbcgailnhgknnaaGreatDoorW.PrintWords Go.Proofs.YtbcgailnhgknnaaGreatDoorW.PrintLast Go.Proofs.YtbcgailnhgknnaaGreatDoorW.PrintMore
attribute [local go_sem] max2_int min2_int max_two min_two max_three min_three max_four min_four   -- for this text's walks alone
set_option linter.unusedVariables false
set_option linter.unusedSimpArgs false
set_option maxHeartbeats 2000000 in
set_option maxRecDepth 100000 in
theorem strings_Builder_WriteString.own2 (B b : Nat) (bs : List Value) (s : ByteArray) (w : World) (h : Lib.IsBuilder 60 5 B b bs w) (hlen : bs.length + s.size ≤ 140737488355328) (hBw : B ≤ w.heap.size) :
    Calls Tryz.prog 33 #[.pointer (some ⟨b, 0, none⟩), .string s] w fun e w' => e = .returned (.tuple #[.int .i64 s.size, .nilIface]) ∧ (Lib.BuilderAt 60 5 B b (.pointer (some ⟨b, 0, none⟩)) (bs ++ Lib.strCells s) w' ∧ Below B w w') ∧ KeepT 60 5 w w' := by
  obtain ⟨i0, hi, hz0, hz1, hz2⟩ := info_parts builder_byte
  go_enter Tryz.func33, Tryz.ntmps33
  go_wp2_with (go_at_call 52; refine (strings_Builder_copyCheck.own2 B b bs _ h).mono ?_)
  rintro e w1 ⟨rfl, ⟨h1, hb1⟩, hk1⟩
  have HK1 := Aside0.mk hk1
  clear hk1
  obtain ⟨hB, v, hbk, hown, hne⟩ := h1
  have c0 : w1.cell? ⟨b, 0, none⟩ = some (.pointer (some ⟨b, 0, none⟩)) := by rw [Lib.cell_of_heap hbk]; rfl
  have c1 : w1.cell? ⟨b, 1, none⟩ = some v := by rw [Lib.cell_of_heap hbk]; rfl
  go_wp2_with (at_builtin; refine Lib.wpList_append_own_string _ rfl _ _ 58 9 rfl B 5 i0 Tryz.underlying58 Tryz.underlying9 hi hz0 hz1 hz2 _ _ _ rfl hown s rfl ?c3 ?c4 ?c5 ?_)
  case c3 => unfold maxLen; omega
  case c4 => omega
  case c5 => have := hb1.size; omega
  intro v' w2 hown' hgrow _
  have hlt : b < w1.heap.size := by
    rcases Nat.lt_or_ge b w1.heap.size with h' | h'
    · exact h'
    · simp [Array.getElem?_eq_none h'] at hbk
  have hb2 : w2.heap[b]? = some (.cells #[.pointer (some ⟨b, 0, none⟩), v] 60 (0, 0)) := by
    rw [hgrow.block b hlt (fun e => hne e.symm)]
    exact hbk
  have d0 : w2.cell? ⟨b, 0, none⟩ = some (.pointer (some ⟨b, 0, none⟩)) := by rw [Lib.cell_of_heap hb2]; rfl
  have d1 : w2.cell? ⟨b, 1, none⟩ = some v := by rw [Lib.cell_of_heap hb2]; rfl
  have f1 : w2.frozen? ⟨b, 1, none⟩ = false := Lib.frozen_of_heap hb2 1
  obtain ⟨ao, n', cap, rfl⟩ : ∃ ao n' cap, v' = .slice ao n' cap := by
    rcases hown'.2 with ⟨hv, _⟩ | ⟨g, cap, cur, hv, _⟩
    · exact ⟨_, _, _, hv⟩
    · exact ⟨_, _, _, hv⟩
  go_wp2
  go_ret2
  refine ⟨rfl, ⟨?_, ?_⟩, ?_⟩
  · exact Lib.BuilderAt.put (T := 60) (e := 5) hB hb2 (bs' := bs ++ Lib.strCells s) (by simpa [Lib.strCells_length] using hown') (by decide)
  · exact (hb1.grown hgrow (by have := hb1.size; omega) (fun k hk => (hown.lt k hk).1)).setCell (p := ⟨b, 1, none⟩) hB _
  · exact (HK1.out.trans (KeepT.grown hown hgrow)).trans (KeepT.set hb2 _)
theorem strings_Builder_WriteString.own (B b : Nat) (bs : List Value) (s : ByteArray) (w : World) (h : Lib.IsBuilder 60 5 B b bs w) (hlen : bs.length + s.size ≤ 140737488355328) (hBw : B ≤ w.heap.size) :
    Calls Tryz.prog 33 #[.pointer (some ⟨b, 0, none⟩), .string s] w fun e w' => e = .returned (.tuple #[.int .i64 s.size, .nilIface]) ∧ (Lib.BuilderAt 60 5 B b (.pointer (some ⟨b, 0, none⟩)) (bs ++ Lib.strCells s) w' ∧ Below B w w') :=
  (strings_Builder_WriteString.own2 B b bs s w h hlen hBw).mono fun _ _ ⟨he, hp, _⟩ => ⟨he, hp⟩
end Go.Proofs.YtbcgailnhgknnaaGreatDoor.PLabelParse
end
