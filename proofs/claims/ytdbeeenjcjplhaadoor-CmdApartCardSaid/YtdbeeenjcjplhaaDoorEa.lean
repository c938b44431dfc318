/- Errors as the program has them, and errors.As. -/
import Derived.Test.YtdbeeenjcjplhaaDoorFa
import Derived.WalkKit
import Derived.LaidEql
import Derived.LoopN
import Derived.Stop.Asserts
import Derived.RowKitTokens
import Derived.Tactics2
namespace Go.Proofs.YtdbeeenjcjplhaaDoor.Vc
open Go Go.RowKit Go.Proofs.Tryd
theorem frc_mk {x : TV} {K : TV → Prop} (h : K x) : frc x K := by rw [frc_eq]; exact h
/-! Errors, as the program has them. -/
inductive Err where
  | nil
  | flt (c : Int) (p : ByteArray) (a : Int) (e : Err)
  | alien (n : Int)
  | around (e : Err)
def Err.tv : Err → TV
  | .nil => .v .nilIface
  | .flt c p a e => .x 23 (.r [tI c, .v (.string p), tI a, e.tv])
  | .alien n => .x 37 (.a [tI n])
  | .around e => .x 89 (.a [e.tv])
theorem Err.imm (e : Err) : e.tv.imm = true := by induction e <;> simp_all [Err.tv, TV.imm, immL]
theorem Err.sub (fo : Nat → TV) (fp : Nat → Nat → Nat → TV) (e : Err) : e.tv.sub fo fp = e.tv := by
  induction e with
  | nil => rfl
  | flt => rfl
  | alien => rfl
  | around e ih => simp only [Err.tv, TV.sub, subL, ih]
theorem Err.ids (e : Err) : e.tv.ids = [] := by induction e <;> simp_all [Err.tv, TV.ids, idsL]
theorem no_mem {P : Nat → Prop} : ∀ d ∈ ([] : List Nat), P d := fun _ h => absurd h List.not_mem_nil
theorem one_lt {o : OL} (h0 : lo o 0 ≠ none) : ∀ d < 1, lo o d ≠ none := fun d hd => by
  obtain rfl : d = 0 := by omega
  exact h0
/-- A fault. -/
structure Flt where
  c : Int
  p : ByteArray
  a : Int
  e : Err
def Flt.tv (f : Flt) : TV := .r [tI f.c, .v (.string f.p), tI f.a, f.e.tv]
/-- The outermost fault. -/
def Err.first : Err → Option Flt
  | .nil => none
  | .flt c p a e => some ⟨c, p, a, e⟩
  | .alien _ => none
  | .around e => e.first
def Err.ptr (e : Err) : TV := match e.first with
  | some f => f.tv
  | none => .v (.pointer none)
def Err.has (code : Int) : Err → Bool
  | .nil => false
  | .flt c _ _ e => decide (c = code) || e.has code
  | .alien _ => false
  | .around e => e.has code
def Err.depth : Err → Nat
  | .nil => 0
  | .flt _ _ _ e => e.depth + 1
  | .alien _ => 0
  | .around e => e.depth + 1
theorem Flt.ids (f : Flt) : f.tv.ids = [] := rfl
theorem callPure {P : Program} [Lay P] {f : Bool} {d g : Nat} {vs : List TV} {l : TL} {o : OL} {K : TL → OL → Prop} {r : TV} (c : Spec P g vs [] r []) (h1 : (idsL vs).isEmpty = true) (h2 : r.ids.isEmpty = true) (k : K ((d, r) :: l) o) : callX P f d g vs l o K :=
  .inr (.inl ⟨vs, r, c, leL_refl _, h1, h2, k⟩)
end Go.Proofs.YtdbeeenjcjplhaaDoor.Vc

namespace Go.Proofs.YtdbeeenjcjplhaaDoor.Vc
open Go Go.RowKit Go.Proofs.Tryd
set_option maxRecDepth 20000

def Err.isNil : Err → Bool
  | .nil => true
  | _ => false
abbrev bs0 : ByteArray := ⟨#[]⟩
abbrev tS (s : ByteArray) : TV := .v (.string s)
/-- Does a fault ask for another one's code? -/
def Flt.asks (t f : Flt) : Bool := (t.p.toList == bs0.toList) && decide (t.a = 0) && t.e.isNil && decide (t.c = f.c)
theorem s16 (f : Flt) : Spec prog 16 [f.tv] [] f.e.tv [] := by
  obtain ⟨c, p, a, e⟩ := f
  refine spec_s is16 mixed rfl (V_x ?_)
  cases e
  all_goals
    repeat' (first | ((conv => whnf) <;>
             first | refine Frz.own ?_ | refine Get.mk _ rfl ?_ | refine Get.mk _ (map_geti (by omega)) ?_ | refine Get.mk _ (map_getp (by omega) (by omega)) ?_ | refine Get.mk _ (map_get (by omega)) ?_ | refine Bv2.mk _ _ rfl rfl ?_ | refine Bv1.mk _ rfl ?_ | refine Wr.mk _ (wrap_i64 (by omega) (by omega)) ?_ | refine Wr.mk _ rfl ?_ | refine And.intro len_map ?_ | refine And.intro (leX_refl _) ?_ | refine And.intro rfl ?_ | refine And.intro (leO_some _) ?_ | (refine And.intro (fun h => absurd h (by decide)) (fun h => ?_); clear h) | (refine And.intro (fun h => ?_) (fun h => absurd h (by decide)); clear h) | (with_reducible first | refine sp1 (fun h => ?_) (fun h => ?_) | refine sp2 (fun h => ?_) (fun h => ?_) | refine sp3 (fun h => ?_) (fun h => ?_) | refine sp4 (fun h => ?_) (fun h => ?_) | refine sp5 (fun h => ?_) (fun h => ?_) | refine sp6 (fun h => ?_) (fun h => ?_)) | with_reducible refine And.intro (fun h => ?_) (fun h => ?_) | refine And.intro (Int.natCast_nonneg _) ?_ | refine And.intro (by omega) ?_ | refine And.intro (by decide) ?_ | refine Lst.mk _ rfl ?_ | refine Byt.mk _ rfl ?_ | refine And.intro trivial ?_ | exact trivial | exact leX_refl _ | exact rfl | refine frc_mk ?_ | refine weak_fr ?_ ?_ rfl | refine And.intro ?_ ?_ | fail) | refine frc_mk ?_)
    all_goals first
      | exact leX_refl _
      | exact leT (Err.sub _ _ _)
      | exact leT rfl
      | trace_state
theorem s16n : Spec prog 16 [.v (.pointer none)] [] (.v .nilIface) [] := by
  refine spec_s is16 mixed rfl (V_x ?_)
  repeat' (first | ((conv => whnf) <;>
           first | refine Frz.own ?_ | refine Get.mk _ rfl ?_ | refine Get.mk _ (map_geti (by omega)) ?_ | refine Get.mk _ (map_getp (by omega) (by omega)) ?_ | refine Get.mk _ (map_get (by omega)) ?_ | refine Bv2.mk _ _ rfl rfl ?_ | refine Bv1.mk _ rfl ?_ | refine Wr.mk _ (wrap_i64 (by omega) (by omega)) ?_ | refine Wr.mk _ rfl ?_ | refine And.intro len_map ?_ | refine And.intro (leX_refl _) ?_ | refine And.intro rfl ?_ | refine And.intro (leO_some _) ?_ | (refine And.intro (fun h => absurd h (by decide)) (fun h => ?_); clear h) | (refine And.intro (fun h => ?_) (fun h => absurd h (by decide)); clear h) | (with_reducible first | refine sp1 (fun h => ?_) (fun h => ?_) | refine sp2 (fun h => ?_) (fun h => ?_) | refine sp3 (fun h => ?_) (fun h => ?_) | refine sp4 (fun h => ?_) (fun h => ?_) | refine sp5 (fun h => ?_) (fun h => ?_) | refine sp6 (fun h => ?_) (fun h => ?_)) | with_reducible refine And.intro (fun h => ?_) (fun h => ?_) | refine And.intro (Int.natCast_nonneg _) ?_ | refine And.intro (by omega) ?_ | refine And.intro (by decide) ?_ | refine Lst.mk _ rfl ?_ | refine Byt.mk _ rfl ?_ | refine And.intro trivial ?_ | exact trivial | exact leX_refl _ | exact rfl | refine frc_mk ?_ | refine weak_fr ?_ ?_ rfl | refine And.intro ?_ ?_ | fail) | refine frc_mk ?_)
theorem s15r (f t : Flt) : Spec prog 15 [f.tv, .x 23 t.tv] [] (tB (t.asks f)) [] := by
  obtain ⟨c, p, a, e⟩ := f
  obtain ⟨c', p', a', e'⟩ := t
  refine spec_s is15 mixed rfl (V_x ?_)
  cases e'
  all_goals
    repeat' (first | ((conv => whnf) <;>
             first | refine Frz.own ?_ | refine Get.mk _ rfl ?_ | refine Get.mk _ (map_geti (by omega)) ?_ | refine Get.mk _ (map_getp (by omega) (by omega)) ?_ | refine Get.mk _ (map_get (by omega)) ?_ | refine Bv2.mk _ _ rfl rfl ?_ | refine Bv1.mk _ rfl ?_ | refine Wr.mk _ (wrap_i64 (by omega) (by omega)) ?_ | refine Wr.mk _ rfl ?_ | refine And.intro len_map ?_ | refine And.intro (leX_refl _) ?_ | refine And.intro rfl ?_ | refine And.intro (leO_some _) ?_ | (refine And.intro (fun h => absurd h (by decide)) (fun h => ?_); clear h) | (refine And.intro (fun h => ?_) (fun h => absurd h (by decide)); clear h) | (with_reducible first | refine sp1 (fun h => ?_) (fun h => ?_) | refine sp2 (fun h => ?_) (fun h => ?_) | refine sp3 (fun h => ?_) (fun h => ?_) | refine sp4 (fun h => ?_) (fun h => ?_) | refine sp5 (fun h => ?_) (fun h => ?_) | refine sp6 (fun h => ?_) (fun h => ?_)) | with_reducible refine And.intro (fun h => ?_) (fun h => ?_) | refine And.intro (Int.natCast_nonneg _) ?_ | refine And.intro (by omega) ?_ | refine And.intro (by decide) ?_ | refine Lst.mk _ rfl ?_ | refine Byt.mk _ rfl ?_ | refine And.intro trivial ?_ | exact trivial | exact leX_refl _ | exact rfl | refine frc_mk ?_ | refine weak_fr ?_ ?_ rfl | refine And.intro ?_ ?_ | fail) | refine frc_mk ?_)
    all_goals first
      | (refine leB ?_; simp_all [Flt.asks, Err.isNil]; done)
      | exact no_mem
      | exact one_lt (fun h => by cases h)
      | rfl
      | trace_state
theorem s15p (f : Flt) (code : Int) : Spec prog 15 [f.tv, .x 23 (.p 0 0 0)] [.var 30 (.a [tI code, tS bs0, tI 0, .v .nilIface])] (tB (decide (code = f.c))) [.var 30 (.a [tI code, tS bs0, tI 0, .v .nilIface])] := by
  obtain ⟨c, p, a, e⟩ := f
  refine spec_o is15 mixed [] rfl rfl rfl (V_x ?_)
  repeat' (first | ((conv => whnf) <;>
           first | refine Frz.own ?_ | refine Get.mk _ rfl ?_ | refine Get.mk _ (map_geti (by omega)) ?_ | refine Get.mk _ (map_getp (by omega) (by omega)) ?_ | refine Get.mk _ (map_get (by omega)) ?_ | refine Bv2.mk _ _ rfl rfl ?_ | refine Bv1.mk _ rfl ?_ | refine Wr.mk _ (wrap_i64 (by omega) (by omega)) ?_ | refine Wr.mk _ rfl ?_ | refine And.intro len_map ?_ | refine And.intro (leX_refl _) ?_ | refine And.intro rfl ?_ | refine And.intro (leO_some _) ?_ | (refine And.intro (fun h => absurd h (by decide)) (fun h => ?_); clear h) | (refine And.intro (fun h => ?_) (fun h => absurd h (by decide)); clear h) | (with_reducible first | refine sp1 (fun h => ?_) (fun h => ?_) | refine sp2 (fun h => ?_) (fun h => ?_) | refine sp3 (fun h => ?_) (fun h => ?_) | refine sp4 (fun h => ?_) (fun h => ?_) | refine sp5 (fun h => ?_) (fun h => ?_) | refine sp6 (fun h => ?_) (fun h => ?_)) | with_reducible refine And.intro (fun h => ?_) (fun h => ?_) | refine And.intro (Int.natCast_nonneg _) ?_ | refine And.intro (by omega) ?_ | refine And.intro (by decide) ?_ | refine Lst.mk _ rfl ?_ | refine Byt.mk _ rfl ?_ | refine And.intro trivial ?_ | exact trivial | exact leX_refl _ | exact rfl | refine frc_mk ?_ | refine weak_fr ?_ ?_ rfl | refine And.intro ?_ ?_ | fail) | refine frc_mk ?_)
  all_goals first
    | exact no_mem
    | exact one_lt (fun h => by cases h)
    | rfl
    | contradiction
    | exact absurd h (by simp)
    | trace_state
theorem s15a (f : Flt) (n : Int) : Spec prog 15 [f.tv, .x 37 (.a [tI n])] [] (tB false) [] := by
  obtain ⟨c, p, a, e⟩ := f
  refine spec_s is15 mixed rfl (V_x ?_)
  repeat' (first | ((conv => whnf) <;>
           first | refine Frz.own ?_ | refine Get.mk _ rfl ?_ | refine Get.mk _ (map_geti (by omega)) ?_ | refine Get.mk _ (map_getp (by omega) (by omega)) ?_ | refine Get.mk _ (map_get (by omega)) ?_ | refine Bv2.mk _ _ rfl rfl ?_ | refine Bv1.mk _ rfl ?_ | refine Wr.mk _ (wrap_i64 (by omega) (by omega)) ?_ | refine Wr.mk _ rfl ?_ | refine And.intro len_map ?_ | refine And.intro (leX_refl _) ?_ | refine And.intro rfl ?_ | refine And.intro (leO_some _) ?_ | (refine And.intro (fun h => absurd h (by decide)) (fun h => ?_); clear h) | (refine And.intro (fun h => ?_) (fun h => absurd h (by decide)); clear h) | (with_reducible first | refine sp1 (fun h => ?_) (fun h => ?_) | refine sp2 (fun h => ?_) (fun h => ?_) | refine sp3 (fun h => ?_) (fun h => ?_) | refine sp4 (fun h => ?_) (fun h => ?_) | refine sp5 (fun h => ?_) (fun h => ?_) | refine sp6 (fun h => ?_) (fun h => ?_)) | with_reducible refine And.intro (fun h => ?_) (fun h => ?_) | refine And.intro (Int.natCast_nonneg _) ?_ | refine And.intro (by omega) ?_ | refine And.intro (by decide) ?_ | refine Lst.mk _ rfl ?_ | refine Byt.mk _ rfl ?_ | refine And.intro trivial ?_ | exact trivial | exact leX_refl _ | exact rfl | refine frc_mk ?_ | refine weak_fr ?_ ?_ rfl | refine And.intro ?_ ?_ | fail) | refine frc_mk ?_)
theorem s15n (t : Flt) : Spec prog 15 [.v (.pointer none), .x 23 t.tv] [] (tB false) [] := by
  obtain ⟨c, p, a, e⟩ := t
  refine spec_s is15 mixed rfl (V_x ?_)
  repeat' (first | ((conv => whnf) <;>
           first | refine Frz.own ?_ | refine Get.mk _ rfl ?_ | refine Get.mk _ (map_geti (by omega)) ?_ | refine Get.mk _ (map_getp (by omega) (by omega)) ?_ | refine Get.mk _ (map_get (by omega)) ?_ | refine Bv2.mk _ _ rfl rfl ?_ | refine Bv1.mk _ rfl ?_ | refine Wr.mk _ (wrap_i64 (by omega) (by omega)) ?_ | refine Wr.mk _ rfl ?_ | refine And.intro len_map ?_ | refine And.intro (leX_refl _) ?_ | refine And.intro rfl ?_ | refine And.intro (leO_some _) ?_ | (refine And.intro (fun h => absurd h (by decide)) (fun h => ?_); clear h) | (refine And.intro (fun h => ?_) (fun h => absurd h (by decide)); clear h) | (with_reducible first | refine sp1 (fun h => ?_) (fun h => ?_) | refine sp2 (fun h => ?_) (fun h => ?_) | refine sp3 (fun h => ?_) (fun h => ?_) | refine sp4 (fun h => ?_) (fun h => ?_) | refine sp5 (fun h => ?_) (fun h => ?_) | refine sp6 (fun h => ?_) (fun h => ?_)) | with_reducible refine And.intro (fun h => ?_) (fun h => ?_) | refine And.intro (Int.natCast_nonneg _) ?_ | refine And.intro (by omega) ?_ | refine And.intro (by decide) ?_ | refine Lst.mk _ rfl ?_ | refine Byt.mk _ rfl ?_ | refine And.intro trivial ?_ | exact trivial | exact leX_refl _ | exact rfl | refine frc_mk ?_ | refine weak_fr ?_ ?_ rfl | refine And.intro ?_ ?_ | fail) | refine frc_mk ?_)
theorem s120 (e : Err) : Spec prog 120 [.a [e.tv]] [] e.tv [] := by
  refine spec_s is120 mixed rfl (V_x ?_)
  cases e
  all_goals
    repeat' (first | ((conv => whnf) <;>
             first | refine Frz.own ?_ | refine Get.mk _ rfl ?_ | refine Get.mk _ (map_geti (by omega)) ?_ | refine Get.mk _ (map_getp (by omega) (by omega)) ?_ | refine Get.mk _ (map_get (by omega)) ?_ | refine Bv2.mk _ _ rfl rfl ?_ | refine Bv1.mk _ rfl ?_ | refine Wr.mk _ (wrap_i64 (by omega) (by omega)) ?_ | refine Wr.mk _ rfl ?_ | refine And.intro len_map ?_ | refine And.intro (leX_refl _) ?_ | refine And.intro rfl ?_ | refine And.intro (leO_some _) ?_ | (refine And.intro (fun h => absurd h (by decide)) (fun h => ?_); clear h) | (refine And.intro (fun h => ?_) (fun h => absurd h (by decide)); clear h) | (with_reducible first | refine sp1 (fun h => ?_) (fun h => ?_) | refine sp2 (fun h => ?_) (fun h => ?_) | refine sp3 (fun h => ?_) (fun h => ?_) | refine sp4 (fun h => ?_) (fun h => ?_) | refine sp5 (fun h => ?_) (fun h => ?_) | refine sp6 (fun h => ?_) (fun h => ?_)) | with_reducible refine And.intro (fun h => ?_) (fun h => ?_) | refine And.intro (Int.natCast_nonneg _) ?_ | refine And.intro (by omega) ?_ | refine And.intro (by decide) ?_ | refine Lst.mk _ rfl ?_ | refine Byt.mk _ rfl ?_ | refine And.intro trivial ?_ | exact trivial | exact leX_refl _ | exact rfl | refine frc_mk ?_ | refine weak_fr ?_ ?_ rfl | refine And.intro ?_ ?_ | fail) | refine frc_mk ?_)
    all_goals first
      | exact leX_refl _
      | exact leT (Err.sub _ _ _)
      | exact leT rfl
      | trace_state
end Go.Proofs.YtdbeeenjcjplhaaDoor.Vc

namespace Go.Proofs.YtdbeeenjcjplhaaDoor.Vc
open Go Go.RowKit Go.Proofs Go.Proofs.Tryd Go.Extern.Stop Go.Stop Go.Extern
set_option maxRecDepth 100000

/-! The model's entries for internal/reflectlite, at this program's types: 23: a pointer to a Fault, 119: to such a pointer, 28: error, 127: reflectlite's rtype, 37: alien, 89: around; 5: the block of the handles. -/
theorem rl_valueOf119 (t : Addr) (w : World) : (ReflectliteValue.unpack (.iface 119 (.pointer (some t)))).run prog w
    = .ok (.agg #[.pointer (some ⟨5, 119, none⟩), .pointer (some ⟨w.heap.size, 0, none⟩), .int .u64 150]) (w.alloc (.cells #[.pointer (some t)] 119)) := by kernel_rfl
theorem rl_type119 (a : Addr) (w : World) : (ReflectliteValue.methodAny (ReflectliteValue.valueError "reflectlite.Value.Type" 0) (fun t _ _ _ => ReflectliteType.toType t) #[.agg #[.pointer (some ⟨5, 119, none⟩), .pointer (some a), .int .u64 150]]).run prog w
    = .ok (.iface 127 (.agg #[.pointer (some ⟨5, 119, none⟩)])) w := by kernel_rfl
theorem rl_methodKind (h : Value) (w : World) : (Go.method 306 127 (.agg #[h]) "Kind").run prog w = .ok (115, h) w := by kernel_rfl
theorem rl_kind119 (w : World) : ((ReflectliteType.abiMethod fun t => (fun a : Nat => Value.int IntKind.u8 (a : Int)) <$> Rtype.kind t) #[.pointer (some ⟨5, 119, none⟩)]).run prog w = .ok (.int .u8 22) w := by kernel_rfl
theorem rl_kind23 (w : World) : ((ReflectliteType.abiMethod fun t => (fun a : Nat => Value.int IntKind.u8 (a : Int)) <$> Rtype.kind t) #[.pointer (some ⟨5, 23, none⟩)]).run prog w = .ok (.int .u8 22) w := by kernel_rfl
theorem rlm (z : Sem Value) (f : TypeId → Addr → Nat → Nat → Sem Value) (v : Value) :
    ReflectliteValue.method z f #[v] = (do match ← ReflectliteValue.parts v with | none => z | some (t, a, fl) => f t a fl (fl % 32)) := rfl
theorem rl_parts119 (a : Addr) (w : World) : (ReflectliteValue.parts (.agg #[.pointer (some ⟨5, 119, none⟩), .pointer (some a), .int .u64 150])).run prog w = .ok (some (119, a, 150)) w := by kernel_rfl
theorem rl_isNil119 (a p : Addr) (W : World) (ha : W.cell? a = some (.pointer (some p))) :
    (ReflectliteValue.method (ReflectliteValue.valueError "reflectlite.Value.IsNil" 0) ReflectliteValue.isNil #[.agg #[.pointer (some ⟨5, 119, none⟩), .pointer (some a), .int .u64 150]]).run prog W = .ok (.bool false) W := by
  rw [rlm]
  simp only [Sem.run_bind, rl_parts119, Result.andThen]
  simp [ReflectliteValue.isNil, loadVar, isAgg, underlying, underlying119, ha, Result.andThen]
theorem rl_methodElem (h : Value) (w : World) : (Go.method 306 127 (.agg #[h]) "Elem").run prog w = .ok (126, .agg #[h]) w := by kernel_rfl
theorem rl_methodImplements (h : Value) (w : World) : (Go.method 306 127 (.agg #[h]) "Implements").run prog w = .ok (127, .agg #[h]) w := by kernel_rfl
theorem rl_methodAssignableTo (h : Value) (w : World) : (Go.method 306 127 (.agg #[h]) "AssignableTo").run prog w = .ok (124, .agg #[h]) w := by kernel_rfl
theorem rl_methodComparable (h : Value) (w : World) : (Go.method 306 127 (.agg #[h]) "Comparable").run prog w = .ok (125, .agg #[h]) w := by kernel_rfl
theorem rl_elem119 (w : World) : (ReflectliteType.method ReflectliteType.elem #[.agg #[.pointer (some ⟨5, 119, none⟩)]]).run prog w = .ok (.iface 127 (.agg #[.pointer (some ⟨5, 23, none⟩)])) w := by kernel_rfl
theorem rl_implements23 (w : World) : (ReflectliteType.relation "Implements" ReflectliteType.implements_ #[.agg #[.pointer (some ⟨5, 23, none⟩)], .iface 127 (.agg #[.pointer (some ⟨5, 28, none⟩)])]).run prog w = .ok (.bool true) w := by kernel_rfl
theorem rl_typeOf (t : TypeId) (v : Value) (w : World) : (ReflectliteType.typeOf #[.iface t v]).run prog w = .ok (.iface 127 (.agg #[.pointer (some ⟨5, t, none⟩)])) w := by kernel_rfl
theorem rl_assignable23 (w : World) : (ReflectliteType.relation "AssignableTo" ReflectliteType.assignableTo #[.agg #[.pointer (some ⟨5, 23, none⟩)], .iface 127 (.agg #[.pointer (some ⟨5, 23, none⟩)])]).run prog w = .ok (.bool true) w := by kernel_rfl
theorem rl_assignable37 (w : World) : (ReflectliteType.relation "AssignableTo" ReflectliteType.assignableTo #[.agg #[.pointer (some ⟨5, 37, none⟩)], .iface 127 (.agg #[.pointer (some ⟨5, 23, none⟩)])]).run prog w = .ok (.bool false) w := by kernel_rfl
theorem rl_assignable89 (w : World) : (ReflectliteType.relation "AssignableTo" ReflectliteType.assignableTo #[.agg #[.pointer (some ⟨5, 89, none⟩)], .iface 127 (.agg #[.pointer (some ⟨5, 23, none⟩)])]).run prog w = .ok (.bool false) w := by kernel_rfl
theorem rl_comparable23 (w : World) : (ReflectliteType.method (fun t => do Rtype.noPackHeld "Comparable" t; pure (.bool (← typeInfo t).comparable)) #[.agg #[.pointer (some ⟨5, 23, none⟩)]]).run prog w = .ok (.bool true) w := by kernel_rfl
theorem rl_valueOf23 (e : Addr) (w : World) : (ReflectliteValue.unpack (.iface 23 (.pointer (some e)))).run prog w
    = .ok (.agg #[.pointer (some ⟨5, 23, none⟩), .pointer (some ⟨w.heap.size, 0, none⟩), .int .u64 150]) (w.alloc (.cells #[.pointer (some e)] 23)) := by kernel_rfl
theorem rl_elemOf119 (w : World) : (Rtype.elem? 119).run prog w = .ok (some 23) w := by kernel_rfl
theorem rl_mk23 (p : Addr) (w : World) : (ReflectliteValue.mk 23 p ReflectliteValue.flagAddr).run prog w = .ok (.agg #[.pointer (some ⟨5, 23, none⟩), .pointer (some p), .int .u64 406]) w := by kernel_rfl
theorem rl_elemV119 (a p : Addr) (W : World) (ha : W.cell? a = some (.pointer (some p))) :
    (ReflectliteValue.method (ReflectliteValue.valueError "reflectlite.Value.Elem" 0) ReflectliteValue.elem #[.agg #[.pointer (some ⟨5, 119, none⟩), .pointer (some a), .int .u64 150]]).run prog W
      = .ok (.agg #[.pointer (some ⟨5, 23, none⟩), .pointer (some p), .int .u64 406]) W := by
  rw [rlm]
  simp only [Sem.run_bind, rl_parts119, Result.andThen]
  simp [ReflectliteValue.elem, loadVar, isAgg, underlying, underlying119, ha, Result.andThen, rl_elemOf119, rl_mk23]
theorem rls (v x : Value) : ReflectliteValue.set #[v, x] = (do
    let (some (dst, a, fl), some (src, b, _)) := (← ReflectliteValue.parts v, ← ReflectliteValue.parts x)
      | unsupported (.noEntry "extern/(internal/reflectlite.Value).Set.zeroValue")
    if fl / ReflectliteValue.flagAddr % 2 == 0 then unsupported (.noEntry "extern/(internal/reflectlite.Value).Set.unaddressable")
    let val ← loadVar src b
    if ← Rtype.directlyAssignable dst src then storeVar dst a val
    else if ← Rtype.implements dst src then
      if (← Rtype.kind src) == 20 then
        match val with
        | .nilIface => unsupported (.noEntry "extern/reflectlite: a nil value of one interface type handed on as a value of another")
        | _ => storeVar dst a val
      else storeVar dst a (.iface src val)
    else panicString ("reflectlite.Set: value of type " ++ (← Rtype.spelt src) ++ " is not assignable to type " ++ (← Rtype.spelt dst))
    pure (.tuple #[])) := rfl
theorem rl_parts23a (a : Addr) (w : World) : (ReflectliteValue.parts (.agg #[.pointer (some ⟨5, 23, none⟩), .pointer (some a), .int .u64 406])).run prog w = .ok (some (23, a, 406)) w := by kernel_rfl
theorem rl_parts23 (a : Addr) (w : World) : (ReflectliteValue.parts (.agg #[.pointer (some ⟨5, 23, none⟩), .pointer (some a), .int .u64 150])).run prog w = .ok (some (23, a, 150)) w := by kernel_rfl
theorem rl_direct23 (w : World) : (Rtype.directlyAssignable 23 23).run prog w = .ok true w := by kernel_rfl
theorem rl_size23 (w : World) : (sizeOf 23).run prog w = .ok 1 w := by kernel_rfl
theorem rl_set23 (ta b e : Addr) (old : Value) (W : World) (hb : W.cell? b = some (.pointer (some e))) (ht : W.cell? ta = some old) (hf : W.frozen? ta = false) :
    (ReflectliteValue.set #[.agg #[.pointer (some ⟨5, 23, none⟩), .pointer (some ta), .int .u64 406], .agg #[.pointer (some ⟨5, 23, none⟩), .pointer (some b), .int .u64 150]]).run prog W
      = .ok (.tuple #[]) (W.setCell ta (.pointer (some e))) := by
  rw [rls]
  simp only [Sem.run_bind, rl_parts23a, rl_parts23, Result.andThen]
  simp [ReflectliteValue.flagAddr, loadVar, isAgg, underlying, underlying23, hb, Result.andThen, rl_direct23, storeVar, Value.cells, storeCells, Addr.add]
  rw [Go.run_store prog W ta _ _ (by rfl)]
  simp [ht, hf]
/-! Methods, and who has which. -/
theorem m_unwrap23 (a : Addr) (w : World) : (Go.method 306 23 (.pointer (some a)) "Unwrap").run prog w = .ok (16, .pointer (some a)) w := by kernel_rfl
theorem m_unwrap89 (v : Value) (w : World) : (Go.method 306 89 (.agg #[v]) "Unwrap").run prog w = .ok (120, .agg #[v]) w := by kernel_rfl
theorem m_is23 (a : Addr) (w : World) : (Go.method 306 23 (.pointer (some a)) "Is").run prog w = .ok (15, .pointer (some a)) w := by kernel_rfl
theorem ta_as23 (v : Value) (xT : TypeId) (w : World) : (Instr.typeAssert (.iface 23 v) xT 160 true).run prog w = .ok (.tuple #[.nilIface, .bool false]) w := run_typeAssert_lacksB underlying160 (by kernel_rfl) (by kernel_rfl) v xT w
theorem ta_as37 (v : Value) (xT : TypeId) (w : World) : (Instr.typeAssert (.iface 37 v) xT 160 true).run prog w = .ok (.tuple #[.nilIface, .bool false]) w := run_typeAssert_lacksB underlying160 (by kernel_rfl) (by kernel_rfl) v xT w
theorem ta_as89 (v : Value) (xT : TypeId) (w : World) : (Instr.typeAssert (.iface 89 v) xT 160 true).run prog w = .ok (.tuple #[.nilIface, .bool false]) w := run_typeAssert_lacksB underlying160 (by kernel_rfl) (by kernel_rfl) v xT w
theorem ta_is23 (v : Value) (xT : TypeId) (w : World) : (Instr.typeAssert (.iface 23 v) xT 129 true).run prog w = .ok (.tuple #[.iface 23 v, .bool true]) w := run_typeAssert_hasB underlying129 (by kernel_rfl) v xT w
theorem ta_is37 (v : Value) (xT : TypeId) (w : World) : (Instr.typeAssert (.iface 37 v) xT 129 true).run prog w = .ok (.tuple #[.nilIface, .bool false]) w := run_typeAssert_lacksB underlying129 (by kernel_rfl) (by kernel_rfl) v xT w
theorem ta_is89 (v : Value) (xT : TypeId) (w : World) : (Instr.typeAssert (.iface 89 v) xT 129 true).run prog w = .ok (.tuple #[.nilIface, .bool false]) w := run_typeAssert_lacksB underlying129 (by kernel_rfl) (by kernel_rfl) v xT w
theorem ta_un23 (v : Value) (xT : TypeId) (w : World) : (Instr.typeAssert (.iface 23 v) xT 131 true).run prog w = .ok (.tuple #[.iface 23 v, .bool true]) w := run_typeAssert_hasB underlying131 (by kernel_rfl) v xT w
theorem ta_un37 (v : Value) (xT : TypeId) (w : World) : (Instr.typeAssert (.iface 37 v) xT 131 true).run prog w = .ok (.tuple #[.nilIface, .bool false]) w := run_typeAssert_lacksB underlying131 (by kernel_rfl) (by kernel_rfl) v xT w
theorem ta_un89 (v : Value) (xT : TypeId) (w : World) : (Instr.typeAssert (.iface 89 v) xT 131 true).run prog w = .ok (.tuple #[.iface 89 v, .bool true]) w := run_typeAssert_hasB underlying131 (by kernel_rfl) v xT w
theorem ta_us37 (v : Value) (xT : TypeId) (w : World) : (Instr.typeAssert (.iface 37 v) xT 132 true).run prog w = .ok (.tuple #[.nilIface, .bool false]) w := run_typeAssert_lacksB underlying132 (by kernel_rfl) (by kernel_rfl) v xT w
end Go.Proofs.YtdbeeenjcjplhaaDoor.Vc

namespace Go.Proofs.YtdbeeenjcjplhaaDoor.Vc
open Go Go.RowKit Go.Proofs Go.Proofs.Tryd Go.Extern.Stop Go.Stop Go.Extern
set_option maxRecDepth 100000

def loopOf : Code → Code
  | .seq _ (.block _ (.loop c)) => c
  | c => c
def bodyOf (f : Func) : Code := match f.body with
  | some c => loopOf c
  | none => .skip
theorem keep_alloc {X : Nat → Prop} {w : World} (o : Obj) : Keep X w (w.alloc o) := ⟨rfl, rfl, rfl, by simp, fun k hk _ => Below.heap_alloc w o k hk, trivial⟩
/-- What errors.as comes to. -/
structure AsPost (e : Err) (w : World) (ok : Nat → Prop) (E : Nat → Value) (g : Nat) (w' : World) : Prop where
  keep : Keep (fun k => k = g) w w'
  out : ∃ y, w'.heap[g]? = some (.cells #[y] 23 (0, 0)) ∧ Rel w' ok E noObs e.ptr y ∧ y.oneCell' = true
theorem keep_set {w : World} (g i : Nat) (v : Value) : Keep (fun k => k = g) w (w.setCell ⟨g, i, none⟩ v) := ⟨rfl, rfl, rfl, by simp, fun k _ hx => heap_setCell_other w ⟨g, i, none⟩ k v hx, trivial⟩
theorem keep_then {g : Nat} {a b c : World} (_hg : g < a.heap.size) (h : Keep (fun k => k = g) a b) (k : Keep (fun k => k = g) b c) : Keep (fun k => k = g) a c :=
  h.trans ⟨k.os, k.tape, k.output, k.size, fun i hi hx => k.block i hi fun e => hx (.inl e), k.drawn⟩
theorem as_hit {ok : Nat → Prop} {E : Nat → Value} {g : Nat} {w0 w : World} {e0 : Err} {f : Flt} (hfn : e0.first = some f) (hg0 : ¬ ok g) (hg1 : g < w0.heap.size) (hk : Keep (fun k => k = g) w0 w) (hg : w.heap[g]? = some (.cells #[.pointer none] 23 (0, 0))) {y : Value} (hy : Rel w ok E noObs f.tv y) (h1 : y.oneCell' = true) (o : Obj) :
    AsPost e0 w0 ok E g ((w.setCell ⟨g, 0, none⟩ y).alloc o) := by
  have hgw : g < w.heap.size := Nat.lt_of_lt_of_le hg1 hk.size
  have hgs : g < (w.setCell ⟨g, 0, none⟩ y).heap.size := by simpa using hgw
  refine ⟨keep_then hg1 hk (keep_then hgw (keep_set g 0 y) (keep_alloc o)), y, ?_, ?_, h1⟩
  · rw [Below.heap_alloc _ o g hgs, heap_setCell_same _ g 0 _ _ _ hg]; rfl
  · unfold Err.ptr
    rw [hfn]
    refine Rel.move (ob := noObs) (w := w) (E := E) (fun k hk' hlt => ⟨hk', ?_⟩) (by simp) (fun d o hd => by simp [noObs] at hd) hy
    rw [Below.heap_alloc _ o k (by simpa using hlt), heap_setCell_other w ⟨g, 0, none⟩ k y (fun e => hg0 ((show k = g from e) ▸ hk'))]
set_option maxHeartbeats 8000000 in
theorem as_rounds (ok : Nat → Prop) (E : Nat → Value) (g bx : Nat) (vb : Addr) (Q : Exit → Act → World → Prop) (w0 : World) (hg0 : ¬ ok g) (e0 : Err) (hQ : ∀ a' w' b, a'.tmps.getD 8 undef = .bool b → a'.defers = [] → a'.tmps.size = 62 → b = e0.first.isSome → AsPost e0 w0 ok E g w' → Q .ret a' w') :
    ∀ (e : Err), e ≠ .nil → e.first = e0.first → ∀ (w : World), Keep (fun k => k = g) w0 w → ∀ (v : Value), Rel w ok E noObs e.tv v → w.heap[g]? = some (.cells #[.pointer none] 23 (0, 0)) → g < w0.heap.size → w.cell? vb = some (.pointer (some ⟨g, 0, none⟩)) → (∃ c0 c1 c2 ty fr, w.heap[bx]? = some (.cells #[c0, c1, c2] ty fr) ∧ c0 = .pointer (some ⟨5, 119, none⟩) ∧ c1 = .pointer (some vb) ∧ c2 = .int .u64 150) → ∀ (x4 x5 x7 x8 x9 x10 x11 x12 x13 x14 x15 x16 x17 x18 x19 x20 x21 x22 x23 x24 x25 x26 x27 x28 x29 x30 x31 x32 x33 x34 x35 x36 x37 x38 x39 x40 x41 x42 x43 x44 x45 x46 x47 x48 x49 x50 x51 x52 x53 x54 x55 x56 x57 x58 x59 x60 x61 : Value), Code.rounds prog (bodyOf f82) Q (e.depth + 1) { tmps := #[v, .iface 119 (.pointer (some ⟨g, 0, none⟩)), .agg #[.pointer (some ⟨5, 119, none⟩), .pointer (some vb), .int .u64 150], .iface 127 (.agg #[.pointer (some ⟨5, 23, none⟩)]), x4, x5, .pointer (some ⟨bx, 0, none⟩), x7, x8, x9, x10, x11, x12, x13, x14, x15, x16, x17, x18, x19, x20, x21, x22, x23, x24, x25, x26, x27, x28, x29, x30, x31, x32, x33, x34, x35, x36, x37, x38, x39, x40, x41, x42, x43, x44, x45, x46, x47, x48, x49, x50, x51, x52, x53, x54, x55, x56, x57, x58, x59, x60, x61], defers := [] } w := by
  intro e
  simp only [bodyOf, f82, loopOf]
  induction e with
  | nil => intro h; exact absurd rfl h
  | alien n =>
    intro _ hf w hk v hv hg hg1 hvb hbx x4 x5 x7 x8 x9 x10 x11 x12 x13 x14 x15 x16 x17 x18 x19 x20 x21 x22 x23 x24 x25 x26 x27 x28 x29 x30 x31 x32 x33 x34 x35 x36 x37 x38 x39 x40 x41 x42 x43 x44 x45 x46 x47 x48 x49 x50 x51 x52 x53 x54 x55 x56 x57 x58 x59 x60 x61
    have hv' : v = .iface 37 (.agg #[.int .i64 n]) := by
      simp only [Err.tv, Rel, RelL] at hv
      obtain ⟨u, rfl, ys, rfl, _, u', us', rfl, ⟨_, rfl⟩, rfl⟩ := hv
      rfl
    subst hv'
    have h10 := @run_callFunc_extern prog 46 _ ReflectliteType.typeOf func46 (by kernel_rfl) (by kernel_rfl) (by kernel_rfl) (by kernel_rfl)
    have h35 := @run_callFunc_extern prog 124 _ (ReflectliteType.relation "AssignableTo" ReflectliteType.assignableTo) func124 (by kernel_rfl) (by kernel_rfl) (by kernel_rfl) (by kernel_rfl)
    have tO := rl_typeOf
    have mA := rl_methodAssignableTo
    have a37 := rl_assignable37
    have ta1 := ta_as37
    have ta2 := ta_un37
    have ta3 := ta_us37
    rw [rounds_succ]
    go_wp2
    have hfn : e0.first = none := hf.symm
    refine hQ _ _ false rfl rfl rfl (by rw [hfn]; rfl) ⟨hk, .pointer none, hg, ?_, rfl⟩
    unfold Err.ptr
    rw [hfn]
    simp [Rel, plain]
  | flt c p a e' _ =>
    intro _ hf w hk v hv hg hg1 hvb hbx x4 x5 x7 x8 x9 x10 x11 x12 x13 x14 x15 x16 x17 x18 x19 x20 x21 x22 x23 x24 x25 x26 x27 x28 x29 x30 x31 x32 x33 x34 x35 x36 x37 x38 x39 x40 x41 x42 x43 x44 x45 x46 x47 x48 x49 x50 x51 x52 x53 x54 x55 x56 x57 x58 x59 x60 x61
    simp only [Err.tv, Rel] at hv
    obtain ⟨u, rfl, ad, us, rfl, hok, hlt, hus, hone, hcell⟩ := hv
    obtain ⟨c0, c1, c2, ty, fr, hbx, rfl, rfl, rfl⟩ := hbx
    have h10 := @run_callFunc_extern prog 46 _ ReflectliteType.typeOf func46 (by kernel_rfl) (by kernel_rfl) (by kernel_rfl) (by kernel_rfl)
    have h35 := @run_callFunc_extern prog 124 _ (ReflectliteType.relation "AssignableTo" ReflectliteType.assignableTo) func124 (by kernel_rfl) (by kernel_rfl) (by kernel_rfl) (by kernel_rfl)
    have h6 := @run_callFunc_extern prog 79 _ (fun args => ReflectliteValue.unpack (args.getD 0 (.tuple #[]))) func79 (by kernel_rfl) (by kernel_rfl) (by kernel_rfl) (by kernel_rfl)
    have h11 := @run_callFunc_extern prog 86 _ (ReflectliteValue.method (ReflectliteValue.valueError "reflectlite.Value.Elem" 0) ReflectliteValue.elem) func86 (by kernel_rfl) (by kernel_rfl) (by kernel_rfl) (by kernel_rfl)
    have h12 := @run_callFunc_extern prog 87 _ ReflectliteValue.set func87 (by kernel_rfl) (by kernel_rfl) (by kernel_rfl) (by kernel_rfl)
    have tO := rl_typeOf
    have mA := rl_methodAssignableTo
    have a23 := rl_assignable23
    have v23 := rl_valueOf23
    have b0 : w.cell? ⟨bx, 0, none⟩ = some (.pointer (some ⟨5, 119, none⟩)) := by simp [World.cell?, hbx]
    have b1 : w.cell? ⟨bx, 1, none⟩ = some (.pointer (some vb)) := by simp [World.cell?, hbx]
    have b2 : w.cell? ⟨bx, 2, none⟩ = some (.int .u64 150) := by simp [World.cell?, hbx]
    have hgw : g < w.heap.size := Nat.lt_of_lt_of_le hg1 hk.size
    have el := rl_elemV119 vb ⟨g, 0, none⟩ w hvb
    have st := rl_set23 ⟨g, 0, none⟩ ⟨w.heap.size, 0, none⟩ ad (.pointer none) (w.alloc (.cells #[.pointer (some ad)] 23)) (by rw [World.cell?_alloc_at _ _ _ _ (by simp)]; rfl) (by rw [World.cell?_alloc_lt _ _ ⟨g, 0, none⟩ hgw]; simp [World.cell?, hg]) (by rw [World.frozen?_alloc_old _ _ ⟨g, 0, none⟩ (Nat.ne_of_lt hgw)]; simp [World.frozen?, hg])
    rw [rounds_succ]
    go_wp2
    have hfn : e0.first = some ⟨c, p, a, e'⟩ := hf.symm
    have hgr : g ≠ ad.block := fun h => hg0 (h ▸ hok)
    refine hQ _ _ true rfl rfl rfl (by rw [hfn]; rfl) (as_hit hfn hg0 hg1 hk hg ?_ rfl _)
    simp only [Flt.tv, Rel]
    exact ⟨ad, us, rfl, hok, hlt, hus, hone, hcell⟩
  | around e' ih =>
    intro _ hf w hk v hv hg hg1 hvb hbx x4 x5 x7 x8 x9 x10 x11 x12 x13 x14 x15 x16 x17 x18 x19 x20 x21 x22 x23 x24 x25 x26 x27 x28 x29 x30 x31 x32 x33 x34 x35 x36 x37 x38 x39 x40 x41 x42 x43 x44 x45 x46 x47 x48 x49 x50 x51 x52 x53 x54 x55 x56 x57 x58 x59 x60 x61
    simp only [Err.tv, Rel, RelL] at hv
    obtain ⟨u, rfl, ys, rfl, hone, v', us', rfl, hv', rfl⟩ := hv
    have h10 := @run_callFunc_extern prog 46 _ ReflectliteType.typeOf func46 (by kernel_rfl) (by kernel_rfl) (by kernel_rfl) (by kernel_rfl)
    have h35 := @run_callFunc_extern prog 124 _ (ReflectliteType.relation "AssignableTo" ReflectliteType.assignableTo) func124 (by kernel_rfl) (by kernel_rfl) (by kernel_rfl) (by kernel_rfl)
    have tO := rl_typeOf
    have mA := rl_methodAssignableTo
    have a89 := rl_assignable89
    have ta1 := ta_as89
    have ta2 := ta_un89
    have mU := m_unwrap89
    rw [rounds_succ]
    cases e' with
    | nil =>
      simp only [Err.tv, Rel] at hv'
      obtain ⟨_, rfl⟩ := hv'
      go_wp2
      have hfn : e0.first = none := hf.symm
      refine hQ _ _ false rfl rfl rfl (by rw [hfn]; rfl) ⟨hk.trans (keep_alloc _), .pointer none, ?_, ?_, rfl⟩
      · rw [Below.heap_alloc w _ g (Nat.lt_of_lt_of_le hg1 hk.size)]; exact hg
      unfold Err.ptr
      rw [hfn]
      simp [Rel, plain]
    | alien n =>
      simp only [Err.tv, Rel] at hv'
      obtain ⟨u', rfl, hu'⟩ := hv'
      go_wp2
      have hgw : g < w.heap.size := Nat.lt_of_lt_of_le hg1 hk.size
      refine ih (by simp) hf _ (hk.trans (keep_alloc _)) _ ?_ ?_ hg1 ?_ ?_ _ _ _ _ _ _ _ _ _ _ _ _ _ _ _ _ _ _ _ _ _ _ _ _ _ _ _ _ _ _ _ _ _ _ _ _ _ _ _ _ _ _ _ _ _ _ _ _ _ _ _ _ _ _ _ _ _
      · refine Rel.move (ob := noObs) (w := w) (E := E) (fun k hk' hlt => ⟨hk', Below.heap_alloc w _ k hlt⟩) (by simp) (fun d o hd => by simp [noObs] at hd) ?_
        simp only [Err.tv, Rel]
        exact ⟨_, rfl, hu'⟩
      · rw [Below.heap_alloc w _ g hgw]; exact hg
      · rw [World.cell?_alloc_lt _ _ vb (cell_lt hvb)]; exact hvb
      · obtain ⟨c0, c1, c2, ty, fr, hbx, r⟩ := hbx
        exact ⟨c0, c1, c2, ty, fr, by rw [Below.heap_alloc w _ bx (Array.getElem?_eq_some_iff.1 hbx).1]; exact hbx, r⟩
    | flt _ _ _ _ =>
      simp only [Err.tv, Rel] at hv'
      obtain ⟨u', rfl, hu'⟩ := hv'
      go_wp2
      have hgw : g < w.heap.size := Nat.lt_of_lt_of_le hg1 hk.size
      refine ih (by simp) hf _ (hk.trans (keep_alloc _)) _ ?_ ?_ hg1 ?_ ?_ _ _ _ _ _ _ _ _ _ _ _ _ _ _ _ _ _ _ _ _ _ _ _ _ _ _ _ _ _ _ _ _ _ _ _ _ _ _ _ _ _ _ _ _ _ _ _ _ _ _ _ _ _ _ _ _ _
      · refine Rel.move (ob := noObs) (w := w) (E := E) (fun k hk' hlt => ⟨hk', Below.heap_alloc w _ k hlt⟩) (by simp) (fun d o hd => by simp [noObs] at hd) ?_
        simp only [Err.tv, Rel]
        exact ⟨_, rfl, hu'⟩
      · rw [Below.heap_alloc w _ g hgw]; exact hg
      · rw [World.cell?_alloc_lt _ _ vb (cell_lt hvb)]; exact hvb
      · obtain ⟨c0, c1, c2, ty, fr, hbx, r⟩ := hbx
        exact ⟨c0, c1, c2, ty, fr, by rw [Below.heap_alloc w _ bx (Array.getElem?_eq_some_iff.1 hbx).1]; exact hbx, r⟩
    | around _ =>
      simp only [Err.tv, Rel] at hv'
      obtain ⟨u', rfl, hu'⟩ := hv'
      go_wp2
      have hgw : g < w.heap.size := Nat.lt_of_lt_of_le hg1 hk.size
      refine ih (by simp) hf _ (hk.trans (keep_alloc _)) _ ?_ ?_ hg1 ?_ ?_ _ _ _ _ _ _ _ _ _ _ _ _ _ _ _ _ _ _ _ _ _ _ _ _ _ _ _ _ _ _ _ _ _ _ _ _ _ _ _ _ _ _ _ _ _ _ _ _ _ _ _ _ _ _ _ _ _
      · refine Rel.move (ob := noObs) (w := w) (E := E) (fun k hk' hlt => ⟨hk', Below.heap_alloc w _ k hlt⟩) (by simp) (fun d o hd => by simp [noObs] at hd) ?_
        simp only [Err.tv, Rel]
        exact ⟨_, rfl, hu'⟩
      · rw [Below.heap_alloc w _ g hgw]; exact hg
      · rw [World.cell?_alloc_lt _ _ vb (cell_lt hvb)]; exact hvb
      · obtain ⟨c0, c1, c2, ty, fr, hbx, r⟩ := hbx
        exact ⟨c0, c1, c2, ty, fr, by rw [Below.heap_alloc w _ bx (Array.getElem?_eq_some_iff.1 hbx).1]; exact hbx, r⟩
end Go.Proofs.YtdbeeenjcjplhaaDoor.Vc

namespace Go.Proofs.YtdbeeenjcjplhaaDoor.Vc
open Go Go.RowKit Go.Proofs Go.Proofs.Tryd Go.Extern.Stop Go.Stop Go.Extern
set_option maxRecDepth 100000

set_option maxHeartbeats 8000000 in
theorem as82 (ok : Nat → Prop) (E : Nat → Value) (e : Err) (he : e ≠ .nil) (w : World) (v : Value) (hv : Rel w ok E noObs e.tv v) (g : Nat) (hg0 : ¬ ok g) (hg : w.heap[g]? = some (.cells #[.pointer none] 23 (0, 0))) (vb : Addr) (hvb : w.cell? vb = some (.pointer (some ⟨g, 0, none⟩))) :
    Calls prog 82 #[v, .iface 119 (.pointer (some ⟨g, 0, none⟩)), .agg #[.pointer (some ⟨5, 119, none⟩), .pointer (some vb), .int .u64 150], .iface 127 (.agg #[.pointer (some ⟨5, 23, none⟩)])] w fun ev w' => ev = .returned (.bool e.first.isSome) ∧ AsPost e w ok E g w' := by
  have hg1 : g < w.heap.size := (Array.getElem?_eq_some_iff.1 hg).1
  go_enter func82, ntmps82
  go_wp2
  refine wp_loop_rounds (e.depth + 1) ?_
  refine as_rounds ok E g w.heap.size vb _ w hg0 e ?_ e he rfl _ (keep_alloc _) v ?_ ?_ hg1 ?_ ?_ _ _ _ _ _ _ _ _ _ _ _ _ _ _ _ _ _ _ _ _ _ _ _ _ _ _ _ _ _ _ _ _ _ _ _ _ _ _ _ _ _ _ _ _ _ _ _ _ _ _ _ _ _ _ _ _ _
  · rintro a' w' b hb hd hs rfl hp
    rename_i Q'
    refine (?_ : Q' Exit.ret a' w')
    refine (?_ : bodyPost prog f82 (fun ev w' => ev = .returned (.bool e.first.isSome) ∧ AsPost e w ok E g w') Exit.ret a' w')
    obtain ⟨tm, df⟩ := a'
    dsimp only at hd
    subst hd
    refine ⟨rfl, .bool e.first.isSome, ?_, rfl, hp⟩
    simp [results, f82]
    simpa [Array.getD_eq_getD_getElem?] using hb
  · exact Rel.move (ob := noObs) (w := w) (E := E) (fun k hk' hlt => ⟨hk', Below.heap_alloc w _ k hlt⟩) (by simp) (fun d o hd => by simp [noObs] at hd) hv
  · rw [Below.heap_alloc w _ g hg1]; exact hg
  · rw [World.cell?_alloc_lt _ _ vb (cell_lt hvb)]; exact hvb
  · exact ⟨.pointer (some ⟨5, 119, none⟩), .pointer (some vb), .int .u64 150, 149, (0, 0), heap_alloc_new w _, rfl, rfl, rfl⟩
set_option maxHeartbeats 8000000 in
/-- errors.As, at a fault's pointer. -/
theorem s65 (e : Err) (he : e ≠ .nil) : Spec prog 65 [e.tv, .x 119 (.p 0 0 0)] [.var 23 (.v (.pointer none))] (tB e.first.isSome) [.var 23 e.ptr] := by
  refine ⟨⟨f65, _, func65, rfl, by kernel_rfl⟩, by simp, by simp [Ob.shape], fun w ok E0 vs hin hdis hnok hargs hlay => ?_⟩
  obtain ⟨gE, y, hE, hy, hh, _⟩ := hin 0 _ rfl
  simp only [Rel] at hy
  obtain ⟨_, rfl⟩ := hy
  simp only [RelL] at hargs
  obtain ⟨v, us, rfl, hv, v2, us2, rfl, h2, rfl⟩ := hargs
  simp only [Rel] at h2
  obtain ⟨u, rfl, o, ho, g, hg, rfl⟩ := h2
  rw [hE] at hg
  simp only [blkOf, Option.some.injEq] at hg
  subst hg
  obtain rfl : o = .var 23 (.v (.pointer none)) := by simp [obsOf] at ho; exact ho.symm
  have hg0 : ¬ ok gE := hnok 0 gE (by simp) (by rw [hE]; rfl)
  have hh : w.heap[gE]? = some (.cells #[.pointer none] 23 (0, 0)) := hh
  have hg1 : gE < w.heap.size := (Array.getElem?_eq_some_iff.1 hh).1
  have hv := imm_rel (ob' := noObs) (E' := E0) e.tv v e.imm hv
  obtain ⟨hok0, ty0, fr0, hcell0⟩ := hlay 0 #[.iface 127 (.agg #[.pointer (some ⟨5, 28, none⟩)])] List.mem_cons_self
  have hgl : w.cell? ⟨0, 0, none⟩ = some (.iface 127 (.agg #[.pointer (some ⟨5, 28, none⟩)])) := by simp [World.cell?, hcell0]
  have hlt0 : 0 < w.heap.size := (Array.getElem?_eq_some_iff.1 hcell0).1
  obtain ⟨tv, uv, rfl⟩ : ∃ tv uv, v = .iface tv uv := by
    cases e with
    | nil => exact absurd rfl he
    | flt => simp only [Err.tv, Rel] at hv; obtain ⟨u, rfl, _⟩ := hv; exact ⟨_, _, rfl⟩
    | alien => simp only [Err.tv, Rel] at hv; obtain ⟨u, rfl, _⟩ := hv; exact ⟨_, _, rfl⟩
    | around => simp only [Err.tv, Rel] at hv; obtain ⟨u, rfl, _⟩ := hv; exact ⟨_, _, rfl⟩
  have h6 := @run_callFunc_extern prog 79 _ (fun args => ReflectliteValue.unpack (args.getD 0 (.tuple #[]))) func79 (by kernel_rfl) (by kernel_rfl) (by kernel_rfl) (by kernel_rfl)
  have h7 := @run_callFunc_extern prog 80 _ (ReflectliteValue.methodAny (ReflectliteValue.valueError "reflectlite.Value.Type" 0) (fun t _ _ _ => ReflectliteType.toType t)) func80 (by kernel_rfl) (by kernel_rfl) (by kernel_rfl) (by kernel_rfl)
  have h8 := @run_callFunc_extern prog 81 _ (ReflectliteValue.method (ReflectliteValue.valueError "reflectlite.Value.IsNil" 0) ReflectliteValue.isNil) func81 (by kernel_rfl) (by kernel_rfl) (by kernel_rfl) (by kernel_rfl)
  have h27 := @run_callFunc_extern prog 115 _ (ReflectliteType.abiMethod fun t => do pure (.int .u8 (← Rtype.kind t))) func115 (by kernel_rfl) (by kernel_rfl) (by kernel_rfl) (by kernel_rfl)
  have h37 := @run_callFunc_extern prog 126 _ (ReflectliteType.method ReflectliteType.elem) func126 (by kernel_rfl) (by kernel_rfl) (by kernel_rfl) (by kernel_rfl)
  have h38 := @run_callFunc_extern prog 127 _ (ReflectliteType.relation "Implements" ReflectliteType.implements_) func127 (by kernel_rfl) (by kernel_rfl) (by kernel_rfl) (by kernel_rfl)
  have f6 := rl_valueOf119
  have f7 := rl_type119
  have mK := rl_methodKind
  have mE := rl_methodElem
  have mI := rl_methodImplements
  have k27 := rl_kind119
  have k25 := rl_kind23
  have e27 := rl_elem119
  have i25 := rl_implements23
  obtain ⟨W1, hW1⟩ : ∃ W1, W1 = w.alloc (.cells #[.pointer (some ⟨gE, 0, none⟩)] 119) := ⟨_, rfl⟩
  have n8 := rl_isNil119 ⟨w.heap.size, 0, none⟩ ⟨gE, 0, none⟩ ((w.alloc (.cells #[.pointer (some ⟨gE, 0, none⟩)] 119)).alloc (.cells #[.pointer (some ⟨5, 119, none⟩), .pointer (some ⟨w.heap.size, 0, none⟩), .int .u64 150] 149)) (by simp)
  have hg2 : ((w.alloc (.cells #[.pointer (some ⟨gE, 0, none⟩)] 119)).alloc (.cells #[.pointer (some ⟨5, 119, none⟩), .pointer (some ⟨w.heap.size, 0, none⟩), .int .u64 150] 149)).cell? ⟨0, 0, none⟩ = some (.iface 127 (.agg #[.pointer (some ⟨5, 28, none⟩)])) := by
    rw [World.cell?_alloc_lt _ _ ⟨0, 0, none⟩ (by simp), World.cell?_alloc_lt _ _ ⟨0, 0, none⟩ hlt0]; exact hgl
  have hA := as82 ok E0 e he ((w.alloc (.cells #[.pointer (some ⟨gE, 0, none⟩)] 119)).alloc (.cells #[.pointer (some ⟨5, 119, none⟩), .pointer (some ⟨w.heap.size, 0, none⟩), .int .u64 150] 149)) (.iface tv uv)
    (Rel.move (ob := noObs) (w := w) (E := E0) (fun k hk' hlt => ⟨hk', by rw [Below.heap_alloc _ _ k (by simp; omega), Below.heap_alloc w _ k hlt]⟩) (by simp; omega) (fun d o hd => by simp [noObs] at hd) hv) gE hg0
    (by rw [Below.heap_alloc _ _ gE (by simp; omega), Below.heap_alloc w _ gE hg1]; exact hh) ⟨w.heap.size, 0, none⟩ (by simp)
  clear hW1
  have key : Calls prog 65 #[.iface tv uv, .iface 119 (.pointer (some ⟨gE, 0, none⟩))] w fun ev w' => ev = .returned (.bool e.first.isSome) ∧ AsPost e ((w.alloc (.cells #[.pointer (some ⟨gE, 0, none⟩)] 119)).alloc (.cells #[.pointer (some ⟨5, 119, none⟩), .pointer (some ⟨w.heap.size, 0, none⟩), .int .u64 150] 149)) ok E0 gE w' := by
    go_enter func65, ntmps65
    go_wp2_with (go_at_call 82; refine hA.mono ?_; rintro ev w' ⟨rfl, hp⟩)
    go_ret
    exact ⟨rfl, hp⟩
  refine key.mono ?_
  rintro ev w' ⟨rfl, ⟨hk, y, hy1, hy2, hy3⟩⟩
  have hk2 := keep_then hg1 ((keep_alloc (X := fun k => k = gE) (w := w) (.cells #[.pointer (some ⟨gE, 0, none⟩)] 119))) (keep_then (by simp; omega) (keep_alloc _) hk)
  have hcy : y.cells = #[y] := by cases y <;> first | rfl | (simp [Value.oneCell'] at hy3)
  refine ⟨_, E0, rfl, ⟨hk2.os, hk2.tape, hk2.output, hk2.size, fun k hlt hx => hk2.block k hlt fun e' => hx ⟨0, by simp [handed, hE, blkOf, e']⟩, hk2.drawn⟩, fun k o hko => ?_, by simp [Rel, plain], fun d _ => rfl, fun d g h1 h2 => by simp at h1 h2; omega, fun d e' g h1 h2 _ _ => by simp at h1 h2; omega⟩
  cases k with
  | succ k => simp at hko
  | zero =>
    simp at hko
    subst hko
    refine ⟨gE, y, hE, ?_, by rw [hcy]; exact hy1, by rw [hcy]; simpa using hy3⟩
    refine Rel.move (ob := noObs) (fun k hk' hlt => ⟨⟨.inl hk', fun d hd hb => ?_⟩, rfl⟩) (Nat.le_refl _) (fun d o hd => by simp [noObs] at hd) hy2
    cases d with
    | zero => rw [hE] at hb; simp [blkOf] at hb; exact hg0 (hb ▸ hk')
    | succ d => simp [obsOf] at hd
end Go.Proofs.YtdbeeenjcjplhaaDoor.Vc
