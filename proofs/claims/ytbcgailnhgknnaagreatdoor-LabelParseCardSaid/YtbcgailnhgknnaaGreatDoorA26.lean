/- Proved here: what functions on this claim's road compute, each as a contract over the seat's program. Conditions: each theorem's own premises. -/
import Derived.LaidEql
import Derived.Stop.Asserts
import Derived.RowKitTokens
import Derived.Shelf.Abstract
import Derived.Lib.IndexLaws
import Derived.IntWalk
import Derived.Test.YtbcgailnhgknnaaGreatDoorA01
import Derived.Test.YtbcgailnhgknnaaGreatDoorA11
import Derived.Test.YtbcgailnhgknnaaGreatDoorA16
import Derived.Test.YtbcgailnhgknnaaGreatDoorA10
section
namespace Go.Proofs.YtbcgailnhgknnaaGreatDoor.PLabelParse
open Go.Proofs.YtbcgailnhgknnaaGreatDoorU8 Go.RowKit Go.Proofs.YtbcgailnhgknnaaGreatDoorW.PrintWords Go.Proofs.YtbcgailnhgknnaaGreatDoorW.PrintLast Go.Proofs.YtbcgailnhgknnaaGreatDoorW.PrintMore
attribute [local go_sem] max2_int min2_int max_two min_two max_three min_three max_four min_four   -- for this text's walks alone
set_option linter.unusedVariables false
set_option linter.unusedSimpArgs false
section
open Go.Extern.Stop Go.Stop Go.Extern
theorem errors_valueOf (t : Addr) (w : World) : (ReflectliteValue.unpack (.iface 117 (.pointer (some t)))).run Tryz.prog w
    = .ok (.agg #[.pointer (some ⟨2, 117, none⟩), .pointer (some ⟨w.heap.size, 0, none⟩), .int .u64 150]) (w.alloc (.cells #[.pointer (some t)] 117)) := by kernel_rfl
theorem errors_type (a : Addr) (w : World) : (ReflectliteValue.methodAny (ReflectliteValue.valueError "reflectlite.Value.Type" 0) (fun t _ _ _ => ReflectliteType.toType t) #[.agg #[.pointer (some ⟨2, 117, none⟩), .pointer (some a), .int .u64 150]]).run Tryz.prog w
    = .ok (.iface 157 (.agg #[.pointer (some ⟨2, 117, none⟩)])) w := by kernel_rfl
theorem errors_kindP (w : World) : ((ReflectliteType.abiMethod fun t => (fun a : Nat => Value.int IntKind.u8 (a : Int)) <$> Rtype.kind t) #[.pointer (some ⟨2, 117, none⟩)]).run Tryz.prog w = .ok (.int .u8 22) w := by kernel_rfl
theorem errors_kindE (w : World) : ((ReflectliteType.abiMethod fun t => (fun a : Nat => Value.int IntKind.u8 (a : Int)) <$> Rtype.kind t) #[.pointer (some ⟨2, 25, none⟩)]).run Tryz.prog w = .ok (.int .u8 2) w := by kernel_rfl
theorem errors_rlm (z : Sem Value) (f : TypeId → Addr → Nat → Nat → Sem Value) (v : Value) :
    ReflectliteValue.method z f #[v] = (do match ← ReflectliteValue.parts v with | none => z | some (t, a, fl) => f t a fl (fl % 32)) := rfl
theorem errors_partsP (a : Addr) (w : World) : (ReflectliteValue.parts (.agg #[.pointer (some ⟨2, 117, none⟩), .pointer (some a), .int .u64 150])).run Tryz.prog w = .ok (some (117, a, 150)) w := by kernel_rfl
theorem errors_isNil (a p : Addr) (W : World) (ha : W.cell? a = some (.pointer (some p))) :
    (ReflectliteValue.method (ReflectliteValue.valueError "reflectlite.Value.IsNil" 0) ReflectliteValue.isNil #[.agg #[.pointer (some ⟨2, 117, none⟩), .pointer (some a), .int .u64 150]]).run Tryz.prog W = .ok (.bool false) W := by
  rw [errors_rlm]
  simp only [Sem.run_bind, errors_partsP, Result.andThen]
  simp [ReflectliteValue.isNil, loadVar, isAgg, underlying, Tryz.underlying117, ha, Result.andThen]
theorem errors_elem (w : World) : (ReflectliteType.method ReflectliteType.elem #[.agg #[.pointer (some ⟨2, 117, none⟩)]]).run Tryz.prog w = .ok (.iface 157 (.agg #[.pointer (some ⟨2, 25, none⟩)])) w := by kernel_rfl
theorem errors_implements (w : World) : (ReflectliteType.relation "Implements" ReflectliteType.implements_ #[.agg #[.pointer (some ⟨2, 25, none⟩)], .iface 157 (.agg #[.pointer (some ⟨2, 62, none⟩)])]).run Tryz.prog w = .ok (.bool true) w := by kernel_rfl
theorem errors_typeOfT (v : Value) (w : World) : (ReflectliteType.typeOf #[.iface 136 v]).run Tryz.prog w = .ok (.iface 157 (.agg #[.pointer (some ⟨2, 136, none⟩)])) w := by kernel_rfl
theorem errors_typeOfE (v : Value) (w : World) : (ReflectliteType.typeOf #[.iface 25 v]).run Tryz.prog w = .ok (.iface 157 (.agg #[.pointer (some ⟨2, 25, none⟩)])) w := by kernel_rfl
theorem errors_assignT (w : World) : (ReflectliteType.relation "AssignableTo" ReflectliteType.assignableTo #[.agg #[.pointer (some ⟨2, 136, none⟩)], .iface 157 (.agg #[.pointer (some ⟨2, 25, none⟩)])]).run Tryz.prog w = .ok (.bool false) w := by kernel_rfl
theorem errors_assignE (w : World) : (ReflectliteType.relation "AssignableTo" ReflectliteType.assignableTo #[.agg #[.pointer (some ⟨2, 25, none⟩)], .iface 157 (.agg #[.pointer (some ⟨2, 25, none⟩)])]).run Tryz.prog w = .ok (.bool true) w := by kernel_rfl
theorem errors_valueE (n : Int) (w : World) : (ReflectliteValue.unpack (.iface 25 (.int .i64 n))).run Tryz.prog w
    = .ok (.agg #[.pointer (some ⟨2, 25, none⟩), .pointer (some ⟨w.heap.size, 0, none⟩), .int .u64 130]) (w.alloc (.cells #[.int .i64 n] 25)) := by kernel_rfl
theorem errors_elemOf (w : World) : (Rtype.elem? 117).run Tryz.prog w = .ok (some 25) w := by kernel_rfl
theorem errors_mk (p : Addr) (w : World) : (ReflectliteValue.mk 25 p ReflectliteValue.flagAddr).run Tryz.prog w = .ok (.agg #[.pointer (some ⟨2, 25, none⟩), .pointer (some p), .int .u64 386]) w := by kernel_rfl
theorem errors_elemV (a p : Addr) (W : World) (ha : W.cell? a = some (.pointer (some p))) :
    (ReflectliteValue.method (ReflectliteValue.valueError "reflectlite.Value.Elem" 0) ReflectliteValue.elem #[.agg #[.pointer (some ⟨2, 117, none⟩), .pointer (some a), .int .u64 150]]).run Tryz.prog W
      = .ok (.agg #[.pointer (some ⟨2, 25, none⟩), .pointer (some p), .int .u64 386]) W := by
  rw [errors_rlm]
  simp only [Sem.run_bind, errors_partsP, Result.andThen]
  simp [ReflectliteValue.elem, loadVar, isAgg, underlying, Tryz.underlying117, ha, Result.andThen, errors_elemOf, errors_mk]
theorem errors_rls (v x : Value) : ReflectliteValue.set #[v, x] = (do
    let (some (dst, a, fl), some (src, b, _)) := (← ReflectliteValue.parts v, ← ReflectliteValue.parts x)
      | unsupported (.noEntry "extern/(internal/reflectlite.Value).Set.zeroValue")
    if fl / ReflectliteValue.flagAddr % 2 == 0 then unsupported (.noEntry "extern/(internal/reflectlite.Value).Set.unaddressable")
    let val ← loadVar src b
    if ← Rtype.directlyAssignable dst src then storeVar dst a val
    else if ← Rtype.implements dst src then
      if (← Rtype.kind src) == 20 then
        match val with
        | .nilIface => unsupported (.noEntry "extern/reflectlite: a nil value of one interface type handed on as a value of another")
        | _ => storeVar dst a val
      else storeVar dst a (.iface src val)
    else panicString ("reflectlite.Set: value of type " ++ (← Rtype.spelt src) ++ " is not assignable to type " ++ (← Rtype.spelt dst))
    pure (.tuple #[])) := rfl
theorem errors_partsEa (a : Addr) (w : World) : (ReflectliteValue.parts (.agg #[.pointer (some ⟨2, 25, none⟩), .pointer (some a), .int .u64 386])).run Tryz.prog w = .ok (some (25, a, 386)) w := by kernel_rfl
theorem errors_partsE (a : Addr) (w : World) : (ReflectliteValue.parts (.agg #[.pointer (some ⟨2, 25, none⟩), .pointer (some a), .int .u64 130])).run Tryz.prog w = .ok (some (25, a, 130)) w := by kernel_rfl
theorem errors_direct (w : World) : (Rtype.directlyAssignable 25 25).run Tryz.prog w = .ok true w := by kernel_rfl
theorem errors_set (ta b : Addr) (n : Int) (old : Value) (W : World) (hb : W.cell? b = some (.int .i64 n)) (ht : W.cell? ta = some old) (hf : W.frozen? ta = false) :
    (ReflectliteValue.set #[.agg #[.pointer (some ⟨2, 25, none⟩), .pointer (some ta), .int .u64 386], .agg #[.pointer (some ⟨2, 25, none⟩), .pointer (some b), .int .u64 130]]).run Tryz.prog W
      = .ok (.tuple #[]) (W.setCell ta (.int .i64 n)) := by
  rw [errors_rls]
  simp only [Sem.run_bind, errors_partsEa, errors_partsE, Result.andThen]
  simp [ReflectliteValue.flagAddr, loadVar, isAgg, underlying, Tryz.underlying25, hb, Result.andThen, errors_direct, storeVar, Value.cells, storeCells, Addr.add]
  rw [run_store Tryz.prog W ta _ _ (by rfl)]
  simp [ht, hf]
end
section
open Go.Extern.Stop Go.Stop Go.Extern
theorem errors_mKind (h : Value) (w : World) : (Go.method 305 157 (.agg #[h]) "Kind").run Tryz.prog w = .ok (138, h) w := by kernel_rfl
theorem errors_mElem (h : Value) (w : World) : (Go.method 305 157 (.agg #[h]) "Elem").run Tryz.prog w = .ok (152, .agg #[h]) w := by kernel_rfl
theorem errors_mImplements (h : Value) (w : World) : (Go.method 305 157 (.agg #[h]) "Implements").run Tryz.prog w = .ok (153, .agg #[h]) w := by kernel_rfl
theorem errors_mAssign (h : Value) (w : World) : (Go.method 305 157 (.agg #[h]) "AssignableTo").run Tryz.prog w = .ok (150, .agg #[h]) w := by kernel_rfl
theorem errors_mUnwrap (p : Option Addr) (w : World) : (Go.method 305 136 (.pointer p) "Unwrap").run Tryz.prog w = .ok (145, .pointer p) w := by kernel_rfl
theorem errors_noAs (v : Value) (w : World) : (Instr.typeAssert (.iface 136 v) 62 162 true).run Tryz.prog w = .ok (.tuple #[.nilIface, .bool false]) w :=
  run_typeAssert_lacksB Tryz.underlying162 (by kernel_rfl) (by kernel_rfl) v _ w
theorem errors_hasUnwrap (v : Value) (w : World) : (Instr.typeAssert (.iface 136 v) 62 165 true).run Tryz.prog w = .ok (.tuple #[.iface 136 v, .bool true]) w := by kernel_rfl
set_option maxHeartbeats 2000000 in
set_option maxRecDepth 100000 in
theorem jtok_trouble_Unwrap.own (g : Nat) (a e : Value) (w : World) (h0 : w.cell? ⟨g, 0, none⟩ = some a) (h1 : w.cell? ⟨g, 1, none⟩ = some e) :
    Calls Tryz.prog 145 #[.pointer (some ⟨g, 0, none⟩)] w fun ev w' => ev = .returned e ∧ w' = w := by
  go_enter Tryz.func145, Tryz.ntmps145
  go_wp2
  go_ret
  exact ⟨rfl, rfl⟩
set_option maxHeartbeats 2000000 in
set_option maxRecDepth 100000 in
theorem errors_as.own (g t : Nat) (a : Int) (n : Int) (old : Value) (w : World) (b : Addr) (ht0 : w.cell? ⟨t, 0, none⟩ = some old) (hf0 : w.frozen? ⟨t, 0, none⟩ = false) (hb : w.cell? b = some (.pointer (some ⟨t, 0, none⟩)))
    (h0 : w.cell? ⟨g, 0, none⟩ = some (.int .i64 a)) (h1 : w.cell? ⟨g, 1, none⟩ = some (.iface 25 (.int .i64 n))) :
    Calls Tryz.prog 109 #[.iface 136 (.pointer (some ⟨g, 0, none⟩)), .iface 117 (.pointer (some ⟨t, 0, none⟩)), .agg #[.pointer (some ⟨2, 117, none⟩), .pointer (some b), .int .u64 150], .iface 157 (.agg #[.pointer (some ⟨2, 25, none⟩)])] w
      fun ev w' => ev = .returned (.bool true) ∧ w'.cell? ⟨t, 0, none⟩ = some (.int .i64 n) ∧ Below t w w' := by
  have h113 := @run_callFunc_extern Tryz.prog 113 _ ReflectliteType.typeOf Tryz.func113 (by kernel_rfl) (by kernel_rfl) (by kernel_rfl) (by kernel_rfl)
  have h106 := @run_callFunc_extern Tryz.prog 106 _ (fun args => ReflectliteValue.unpack (args.getD 0 (.tuple #[]))) Tryz.func106 (by kernel_rfl) (by kernel_rfl) (by kernel_rfl) (by kernel_rfl)
  have h150 := @run_callFunc_extern Tryz.prog 150 _ (ReflectliteType.relation "AssignableTo" ReflectliteType.assignableTo) Tryz.func150 (by kernel_rfl) (by kernel_rfl) (by kernel_rfl) (by kernel_rfl)
  have h114 := @run_callFunc_extern Tryz.prog 114 _ (ReflectliteValue.method (ReflectliteValue.valueError "reflectlite.Value.Elem" 0) ReflectliteValue.elem) Tryz.func114 (by kernel_rfl) (by kernel_rfl) (by kernel_rfl) (by kernel_rfl)
  have h115 := @run_callFunc_extern Tryz.prog 115 _ ReflectliteValue.set Tryz.func115 (by kernel_rfl) (by kernel_rfl) (by kernel_rfl) (by kernel_rfl)
  have tT := errors_typeOfT
  have tE := errors_typeOfE
  have aT := errors_assignT
  have aE := errors_assignE
  have mA := errors_mAssign
  have mU := errors_mUnwrap
  have nA := errors_noAs
  have hU := errors_hasUnwrap
  have vE := errors_valueE n
  have WA : ∃ W, W = w.alloc (.cells #[.pointer (some ⟨2, 117, none⟩), .pointer (some b), .int .u64 150] 141) := ⟨_, rfl⟩
  obtain ⟨W, hW⟩ := WA
  have eV := errors_elemV b ⟨t, 0, none⟩ W (by rw [hW]; exact cell_alloc hb _)
  have sV := errors_set ⟨t, 0, none⟩ ⟨W.heap.size, 0, none⟩ n old (W.alloc (.cells #[.int .i64 n] 25)) (by rw [World.cell?_alloc_at _ _ _ _ (by simp)]; rfl) (by rw [hW]; exact cell_alloc (cell_alloc ht0 _) _) (by rw [hW]; exact frozen_alloc (cell_alloc ht0 _) (frozen_alloc ht0 hf0 _) _)
  have hcell : ((W.alloc (.cells #[.int .i64 n] 25)).setCell ⟨t, 0, none⟩ (.int .i64 n)).cell? ⟨t, 0, none⟩ = some (.int .i64 n) := by
    have := cell_alloc (cell_alloc ht0 (.cells #[.pointer (some ⟨2, 117, none⟩), .pointer (some b), .int .u64 150] 141)) (.cells #[.int .i64 n] 25)
    rw [← hW] at this
    exact World.cell?_setCell_same _ _ _ this
  have hbel : Below t w ((W.alloc (.cells #[.int .i64 n] 25)).setCell ⟨t, 0, none⟩ (.int .i64 n)) := by
    have hlt : t < w.heap.size := cell_lt ht0
    rw [hW]
    exact (((Below.refl t w).alloc (by omega) _).alloc (by simp; omega) _).setCell (Nat.le_refl _) _
  have hs : W.heap.size = w.heap.size + 1 := by rw [hW]; simp
  rw [hs] at sV
  rw [hW] at eV sV hcell hbel
  clear hW
  go_enter Tryz.func109, Tryz.ntmps109
  go_wp2
  refine wp_loop_rounds 2 ?_
  rw [rounds_succ]
  go_wp2_with (go_at_call 145; refine (jtok_trouble_Unwrap.own g (.int .i64 a) (.iface 25 (.int .i64 n)) _ (cell_alloc h0 _) (cell_alloc h1 _)).mono ?_; rintro e w' ⟨rfl, rfl⟩)
  rw [rounds_succ]
  go_wp2
  go_ret
  exact ⟨rfl, hcell, hbel⟩
end
section
open Go.Extern.Stop Go.Stop Go.Extern
set_option maxHeartbeats 2000000 in
set_option maxRecDepth 100000 in
theorem errors_As.own (g t : Nat) (a : Int) (n : Int) (old : Value) (w : World) (hg : w.cell? ⟨1, 0, none⟩ = some (.iface 157 (.agg #[.pointer (some ⟨2, 62, none⟩)]))) (ht0 : w.cell? ⟨t, 0, none⟩ = some old) (hf0 : w.frozen? ⟨t, 0, none⟩ = false)
    (h0 : w.cell? ⟨g, 0, none⟩ = some (.int .i64 a)) (h1 : w.cell? ⟨g, 1, none⟩ = some (.iface 25 (.int .i64 n))) :
    Calls Tryz.prog 86 #[.iface 136 (.pointer (some ⟨g, 0, none⟩)), .iface 117 (.pointer (some ⟨t, 0, none⟩))] w
      fun ev w' => ev = .returned (.bool true) ∧ w'.cell? ⟨t, 0, none⟩ = some (.int .i64 n) ∧ Below t w w' := by
  have h106 := @run_callFunc_extern Tryz.prog 106 _ (fun args => ReflectliteValue.unpack (args.getD 0 (.tuple #[]))) Tryz.func106 (by kernel_rfl) (by kernel_rfl) (by kernel_rfl) (by kernel_rfl)
  have h107 := @run_callFunc_extern Tryz.prog 107 _ (ReflectliteValue.methodAny (ReflectliteValue.valueError "reflectlite.Value.Type" 0) (fun t _ _ _ => ReflectliteType.toType t)) Tryz.func107 (by kernel_rfl) (by kernel_rfl) (by kernel_rfl) (by kernel_rfl)
  have h108 := @run_callFunc_extern Tryz.prog 108 _ (ReflectliteValue.method (ReflectliteValue.valueError "reflectlite.Value.IsNil" 0) ReflectliteValue.isNil) Tryz.func108 (by kernel_rfl) (by kernel_rfl) (by kernel_rfl) (by kernel_rfl)
  have h138 := @run_callFunc_extern Tryz.prog 138 _ (ReflectliteType.abiMethod fun t => do pure (.int .u8 (← Rtype.kind t))) Tryz.func138 (by kernel_rfl) (by kernel_rfl) (by kernel_rfl) (by kernel_rfl)
  have h152 := @run_callFunc_extern Tryz.prog 152 _ (ReflectliteType.method ReflectliteType.elem) Tryz.func152 (by kernel_rfl) (by kernel_rfl) (by kernel_rfl) (by kernel_rfl)
  have h153 := @run_callFunc_extern Tryz.prog 153 _ (ReflectliteType.relation "Implements" ReflectliteType.implements_) Tryz.func153 (by kernel_rfl) (by kernel_rfl) (by kernel_rfl) (by kernel_rfl)
  have f1 := errors_valueOf ⟨t, 0, none⟩
  have f2 := errors_type
  have f3 := errors_kindP
  have f4 := errors_kindE
  have f5 := errors_elem
  have f6 := errors_implements
  have m1 := errors_mKind
  have m2 := errors_mElem
  have m3 := errors_mImplements
  have n8 := errors_isNil ⟨w.heap.size, 0, none⟩ ⟨t, 0, none⟩ ((w.alloc (.cells #[.pointer (some ⟨t, 0, none⟩)] 117)).alloc (.cells #[.pointer (some ⟨2, 117, none⟩), .pointer (some ⟨w.heap.size, 0, none⟩), .int .u64 150] 141)) (by simp)
  have hg2 := cell_alloc (cell_alloc hg (.cells #[.pointer (some ⟨t, 0, none⟩)] 117)) (.cells #[.pointer (some ⟨2, 117, none⟩), .pointer (some ⟨w.heap.size, 0, none⟩), .int .u64 150] 141)
  have hlt : t < w.heap.size := cell_lt ht0
  have hbel : Below t w ((w.alloc (.cells #[.pointer (some ⟨t, 0, none⟩)] 117)).alloc (.cells #[.pointer (some ⟨2, 117, none⟩), .pointer (some ⟨w.heap.size, 0, none⟩), .int .u64 150] 141)) := ((Below.refl t w).alloc (by omega) _).alloc (by simp; omega) _
  have HAS := Aside0.mk (errors_as.own g t a n old ((w.alloc (.cells #[.pointer (some ⟨t, 0, none⟩)] 117)).alloc (.cells #[.pointer (some ⟨2, 117, none⟩), .pointer (some ⟨w.heap.size, 0, none⟩), .int .u64 150] 141)) ⟨w.heap.size, 0, none⟩ (cell_alloc (cell_alloc ht0 _) _) (frozen_alloc (cell_alloc ht0 _) (frozen_alloc ht0 hf0 _) _) (by simp) (cell_alloc (cell_alloc h0 _) _) (cell_alloc (cell_alloc h1 _) _))
  go_enter Tryz.func86, Tryz.ntmps86
  go_wp2_with (go_at_call 109; refine HAS.out.mono ?_; rintro e w' ⟨rfl, hc, hB⟩)
  go_ret
  exact ⟨rfl, hc, hbel.trans hB⟩
end
end Go.Proofs.YtbcgailnhgknnaaGreatDoor.PLabelParse
end
section
namespace Go.Proofs.YtbcgailnhgknnaaGreatDoor.PLabelParse
open Go.Proofs.YtbcgailnhgknnaaGreatDoorU8 Go.RowKit Go.Proofs.YtbcgailnhgknnaaGreatDoorW.PrintWords Go.Proofs.YtbcgailnhgknnaaGreatDoorW.PrintLast Go.Proofs.YtbcgailnhgknnaaGreatDoorW.PrintMore
attribute [local go_sem] max2_int min2_int max_two min_two max_three min_three max_four min_four   -- for this text's walks alone
set_option linter.unusedVariables false
set_option linter.unusedSimpArgs false
def TroubleAt (w : World) (v : Value) (n : Int) : Prop := ∃ g a, v = .iface 136 (.pointer (some ⟨g, 0, none⟩)) ∧ w.cell? ⟨g, 0, none⟩ = some (.int .i64 a) ∧ w.cell? ⟨g, 1, none⟩ = some (.iface 25 (.int .i64 n))
theorem TroubleAt.below {w w' : World} {v : Value} {n : Int} (h : TroubleAt w v n) (hB : Below w.heap.size w w') : TroubleAt w' v n := by
  obtain ⟨g, a, hv, h0, h1⟩ := h
  exact ⟨g, a, hv, by rw [hB.cell (cell_lt h0)]; exact h0, by rw [hB.cell (cell_lt h1)]; exact h1⟩
def ErrCell (w : World) : Prop := w.cell? ⟨1, 0, none⟩ = some (.iface 157 (.agg #[.pointer (some ⟨2, 62, none⟩)]))
theorem ErrCell.below {w w' : World} (h : ErrCell w) (hB : Below w.heap.size w w') : ErrCell w' := by
  unfold ErrCell at *
  rw [hB.cell (cell_lt h)]
  exact h
set_option maxHeartbeats 1000000 in
set_option maxRecDepth 100000 in
theorem jtok_wrong.own (a n : Int) (w : World) :
    Calls Tryz.prog 83 #[.int .i64 a, .int .i64 n] w fun ev w' => ∃ v, ev = .returned v ∧ TroubleAt w' v n ∧ Below w.heap.size w w' := by
  go_enter Tryz.func83, Tryz.ntmps83
  go_wp2
  go_ret
  exact ⟨_, rfl, ⟨w.heap.size, a, rfl, by simp, by simp⟩, (Below.refl _ w).alloc (Nat.le_refl _) _⟩
set_option maxHeartbeats 1000000 in
set_option maxRecDepth 100000 in
theorem jtok_number.own (v : Value) (n : Int) (w : World) (hg : ErrCell w) (hv : TroubleAt w v n) :
    Calls Tryz.prog 61 #[v] w fun ev w' => ev = .returned (.int .i64 n) ∧ Below w.heap.size w w' := by
  obtain ⟨g, a, rfl, h0, h1⟩ := hv
  have HA := Aside0.mk (errors_As.own g w.heap.size a n (.int .i64 0) (w.alloc (.cells #[.int .i64 0] 25)) (cell_alloc hg _) (by simp) (Lib.frozen_of_heap (heap_alloc_new w _) 0) (cell_alloc h0 _) (cell_alloc h1 _))
  have hbel : Below w.heap.size w (w.alloc (.cells #[.int .i64 0] 25)) := (Below.refl _ w).alloc (Nat.le_refl _) _
  go_enter Tryz.func61, Tryz.ntmps61
  go_wp2_with (go_at_call 86; refine HA.out.mono ?_; rintro e w' ⟨rfl, hc, hB⟩)
  go_ret
  exact ⟨rfl, hbel.trans hB⟩
end Go.Proofs.YtbcgailnhgknnaaGreatDoor.PLabelParse
end
section
namespace Go.Proofs.YtbcgailnhgknnaaGreatDoor.PLabelParse
open Go.Proofs.YtbcgailnhgknnaaGreatDoorU8 Go.RowKit Go.Proofs.YtbcgailnhgknnaaGreatDoorW.PrintWords Go.Proofs.YtbcgailnhgknnaaGreatDoorW.PrintLast Go.Proofs.YtbcgailnhgknnaaGreatDoorW.PrintMore
attribute [local go_sem] max2_int min2_int max_two min_two max_three min_three max_four min_four   -- for this text's walks alone
set_option linter.unusedVariables false
set_option linter.unusedSimpArgs false
def cutV (s : ByteArray) (c : UInt8) : Value :=
  if 0 ≤ Lib.indexByte s.data.toList c then .tuple #[.string (s.extract 0 (Lib.indexByte s.data.toList c).toNat), .string (s.extract ((Lib.indexByte s.data.toList c).toNat + 1) s.size), .bool true] else .tuple #[.string s, .string ⟨#[]⟩, .bool false]
theorem indexByte_lt {l : List UInt8} {c : UInt8} (h : 0 ≤ Lib.indexByte l c) : (Lib.indexByte l c).toNat < l.length := by
  have h2 := (Lib.indexByte_some (l := l) (c := c) (o := (Lib.indexByte l c).toNat) (by omega)).1
  rcases Nat.lt_or_ge (Lib.indexByte l c).toNat l.length with h3 | h3
  · exact h3
  · rw [List.getElem?_eq_none h3] at h2; cases h2
set_option maxHeartbeats 1000000 in
set_option maxRecDepth 100000 in
theorem stringslite_CutOne.own (s : ByteArray) (hs : s.size ≤ 9223372036854775806) (c : UInt8) (W : World) : Calls Tryz.prog 57 #[.string s, .string ⟨#[c]⟩] W fun e w' => e = .returned (cutV s c) ∧ Drawn0 W w' := by
  have HI := Aside0.mk (fun W => Tryz.stringslite_Index_one s c W)
  have hge := Lib.indexByte_ge s.data.toList c
  unfold cutV
  by_cases h : 0 ≤ Lib.indexByte s.data.toList c
  · rw [if_pos h]
    have hlt := indexByte_lt h
    have hlen : s.data.toList.length = s.size := Array.length_toList
    obtain ⟨i, hi⟩ := Int.eq_ofNat_of_zero_le h
    rw [hi] at hlt HI ⊢
    simp only [Int.toNat_natCast] at hlt ⊢
    rw [hlen] at hlt
    clear h hge hi hlen
    have q1 : (0 ≤ (i : Int)) = True := eq_true (by omega)
    have q2 : ((i : Int) ≤ (s.size : Int)) = True := eq_true (by omega)
    have q3 : ((i : Int) + 1 ≤ (s.size : Int)) = True := eq_true (by omega)
    have q4 : (0 ≤ (i : Int) + 1) = True := eq_true (by omega)
    have q5 : IntKind.i64.wrap ((i : Int) + 1) = (i : Int) + 1 := IntWalk.i64_in _ (by omega)
    have q6 : ((i : Int) + 1).toNat = i + 1 := by omega
    clear hlt hs
    go_enter Tryz.func57, Tryz.ntmps57
    go_wp2_with fail
    refine (HI.out _).mono ?_
    rintro e w' ⟨rfl, rfl⟩
    go_wp2
    go_quiet (fail)
    go_wp2
    go_ret3
    exact ⟨rfl, ⟨nq, rfl⟩⟩
  · rw [if_neg h]
    have hm : Lib.indexByte s.data.toList c = -1 := by omega
    rw [hm] at HI
    clear h hge hm
    go_enter Tryz.func57, Tryz.ntmps57
    go_wp2_with fail
    refine (HI.out _).mono ?_
    rintro e w' ⟨rfl, rfl⟩
    go_wp2
    go_ret3
    exact ⟨rfl, Drawn0.refl _⟩
set_option maxHeartbeats 1000000 in
set_option maxRecDepth 100000 in
theorem strings_CutOne.own (s : ByteArray) (hs : s.size ≤ 9223372036854775806) (c : UInt8) (W : World) : Calls Tryz.prog 38 #[.string s, .string ⟨#[c]⟩] W fun e w' => e = .returned (cutV s c) ∧ Drawn0 W w' := by
  have HC := Aside0.mk (fun W => stringslite_CutOne.own s hs c W)
  unfold cutV at *
  clear hs
  by_cases h : 0 ≤ Lib.indexByte s.data.toList c
  · rw [if_pos h] at HC ⊢
    clear h
    generalize s.extract 0 (Lib.indexByte s.data.toList c).toNat = a at *
    generalize s.extract ((Lib.indexByte s.data.toList c).toNat + 1) s.size = b at *
    go_enter Tryz.func38, Tryz.ntmps38
    go_wp2_with fail
    refine (HC.out _).mono ?_
    rintro e w' ⟨rfl, ⟨n1, rfl⟩⟩
    go_wp2
    go_ret3
    exact ⟨rfl, ⟨n1, rfl⟩⟩
  · rw [if_neg h] at HC ⊢
    clear h
    go_enter Tryz.func38, Tryz.ntmps38
    go_wp2_with fail
    refine (HC.out _).mono ?_
    rintro e w' ⟨rfl, ⟨n1, rfl⟩⟩
    go_wp2
    go_ret3
    exact ⟨rfl, ⟨n1, rfl⟩⟩
end Go.Proofs.YtbcgailnhgknnaaGreatDoor.PLabelParse
end
section
namespace Go.Proofs.YtbcgailnhgknnaaGreatDoor.PLabelParse
open Go.Proofs.YtbcgailnhgknnaaGreatDoorU8 Go.RowKit Go.Proofs.YtbcgailnhgknnaaGreatDoorW.PrintWords Go.Proofs.YtbcgailnhgknnaaGreatDoorW.PrintLast Go.Proofs.YtbcgailnhgknnaaGreatDoorW.PrintMore
attribute [local go_sem] max2_int min2_int max_two min_two max_three min_three max_four min_four   -- for this text's walks alone
set_option linter.unusedVariables false
set_option linter.unusedSimpArgs false
set_option maxHeartbeats 400000 in
set_option maxRecDepth 100000 in
theorem jtok_run.own (s : ByteArray) (hs : s.size ≤ 9223372036854775807) (i0 : Nat) (hi0 : i0 ≤ s.size) (g : Nat) (p : Int → Bool) (w : World) (eg : ∀ args w, (callFunc g args).run Tryz.prog w = .ok (.enter g args) w)
    (hp : ∀ c W, 0 ≤ c → c ≤ 255 → Calls Tryz.prog g #[.int .u8 c] W fun e w' => e = .returned (.bool (p c)) ∧ Drawn0 W w') :
    Calls Tryz.prog 58 #[.string s, .int .i64 i0, .func (.func g) #[] #[]] w fun e w' => e = .returned (.int .i64 (runTo p s i0)) ∧ Drawn0 w w' := by
  have HI0 := Aside0.mk hi0
  clear hi0
  go_enter Tryz.func58, Tryz.ntmps58
  go_wp2
  go_loopw [1] (fun at_ wr => ∃ i : Nat, at_ = .int .i64 i ∧ i ≤ s.size ∧ Aside0 (runTo p s i0 = runTo p s i) ∧ Drawn0 w wr) (fun at_ _ => s.size - (intOf at_).toNat)
  case atStart => exact ⟨i0, rfl, HI0.out, ⟨rfl⟩, Drawn0.refl _⟩
  case round =>
    clear HI0
    obtain ⟨i, rfl, hi, HA, ⟨n, rfl⟩⟩ := hrel
    by_cases hlt : i < s.size
    · have hx6 : ∀ hq : i < s.size, ((s[i]'hq).toNat : Int) = bt s (i : Int) := fun hq => bt_at s (i : Int) hq
      have hr := bt_range s (i : Int)
      have HT := Aside0.mk (runTo_step p s i hlt)
      generalize bt s (i : Int) = c at *
      have HP := Aside0.mk (fun W => hp c W hr.1 hr.2)
      cases hb : p c with
      | true =>
        rw [hb] at HP HT
        go_wp2_with (go_at_fn g; refine (HP.out _).mono ?_; rintro e w' ⟨rfl, ⟨n1, rfl⟩⟩)
        exact ⟨⟨i + 1, by go_num, by omega, ⟨by rw [HA.out, HT.out, if_pos trivial]⟩, ⟨n + n1, rfl⟩⟩, by simp [intOf]; omega⟩
      | false =>
        rw [hb] at HP HT
        go_wp2_with (go_at_fn g; refine (HP.out _).mono ?_; rintro e w' ⟨rfl, ⟨n1, rfl⟩⟩)
        go_ret
        refine ⟨?_, ⟨n + n1, rfl⟩⟩
        rw [HA.out, HT.out, if_neg Bool.false_ne_true]; rfl
    · have hie : i = s.size := by omega
      subst hie
      clear hlt hi
      go_wp2
      go_ret
      refine ⟨?_, ⟨n, rfl⟩⟩
      rw [HA.out, runTo_end]; rfl
end Go.Proofs.YtbcgailnhgknnaaGreatDoor.PLabelParse
end
