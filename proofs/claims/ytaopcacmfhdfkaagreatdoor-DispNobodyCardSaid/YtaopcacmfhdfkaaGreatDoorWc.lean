/- Closed runs, reckoned: regions that draw their order, and whole codes: a run that is reckoned is a run of the machine; for every program. -/
import Derived.Test.YtaopcacmfhdfkaaGreatDoorWb
import Derived.Below
namespace Go.Proofs.YtaopcacmfhdfkaaGreatDoor.Ev
open Go Go.RowKit Go.Proofs.YtaopcacmfhdfkaaGreatDoor.Vc
set_option linter.unusedSimpArgs false
set_option linter.unusedVariables false

/-! Alike: asked of objects; yes is sure. -/
noncomputable def vB : Value → Value → Bool
  | .bool a, .bool b => a == b
  | .int k a, .int k' b => decide (k = k') && decide (a = b)
  | .string a, .string b => decide (a = b)
  | .nilFunc, .nilFunc => true
  | .nilIface, .nilIface => true
  | .pointer none, .pointer none => true
  | .slice none 0 0, .slice none 0 0 => true
  | .map none, .map none => true
  | _, _ => false
theorem vB_ok {a b : Value} (h : vB a b = true) : a = b := by
  unfold vB at h
  split at h <;> first | cases h | skip
  all_goals first
    | rfl
    | (simp at h; subst h; rfl)
    | (simp at h; obtain ⟨rfl, rfl⟩ := h; rfl)
mutual
noncomputable def evB' : EV → EV → Bool
  | .v x, .v y => vB x y
  | .p b o, .p b' o' => Nat.beq b b' && Nat.beq o o'
  | .s ex b o n c, .s ex' b' o' n' c' => (ex == ex') && Nat.beq b b' && Nat.beq o o' && Nat.beq n n' && Nat.beq c c'
  | .m b, .m b' => Nat.beq b b'
  | .g b o, .g b' o' => Nat.beq b b' && Nat.beq o o'
  | .a l, .a l' => evBL l l'
  | .x t y, .x t' y' => Nat.beq t t' && evB' y y'
  | .t l, .t l' => evBL l l'
  | _, _ => false
noncomputable def evBL : List EV → List EV → Bool
  | [], [] => true
  | x :: xs, y :: ys => evB' x y && evBL xs ys
  | _, _ => false
end
mutual
theorem evB'_ok : ∀ (x y : EV), evB' x y = true → x = y
  | .v x, y, h => by cases y <;> simp only [evB', Bool.false_eq_true] at h; rw [vB_ok h]
  | .p b o, y, h => by
    cases y <;> simp only [evB', Bool.false_eq_true, Bool.and_eq_true] at h
    rw [Nat.eq_of_beq_eq_true h.1, Nat.eq_of_beq_eq_true h.2]
  | .g b o, y, h => by
    cases y <;> simp only [evB', Bool.false_eq_true, Bool.and_eq_true] at h
    rw [Nat.eq_of_beq_eq_true h.1, Nat.eq_of_beq_eq_true h.2]
  | .s ex b o n c, y, h => by
    cases y <;> simp only [evB', Bool.false_eq_true, Bool.and_eq_true, beq_iff_eq] at h
    rw [h.1.1.1.1, Nat.eq_of_beq_eq_true h.1.1.1.2, Nat.eq_of_beq_eq_true h.1.1.2, Nat.eq_of_beq_eq_true h.1.2, Nat.eq_of_beq_eq_true h.2]
  | .m b, y, h => by
    cases y <;> simp only [evB', Bool.false_eq_true] at h
    rw [Nat.eq_of_beq_eq_true h]
  | .a l, y, h => by
    cases y <;> simp only [evB', Bool.false_eq_true] at h
    rw [evBL_ok l _ h]
  | .x t z, y, h => by
    cases y <;> simp only [evB', Bool.false_eq_true, Bool.and_eq_true] at h
    rw [Nat.eq_of_beq_eq_true h.1, evB'_ok z _ h.2]
  | .t l, y, h => by
    cases y <;> simp only [evB', Bool.false_eq_true] at h
    rw [evBL_ok l _ h]
  | .o _, y, h => by cases y <;> simp only [evB', Bool.false_eq_true] at h
  | .f _ _ _, y, h => by cases y <;> simp only [evB', Bool.false_eq_true] at h
theorem evBL_ok : ∀ (x y : List EV), evBL x y = true → x = y
  | [], y, h => by cases y <;> simp only [evBL, Bool.false_eq_true] at h; rfl
  | x :: xs, y, h => by
    cases y <;> simp only [evBL, Bool.false_eq_true, Bool.and_eq_true] at h
    rw [evB'_ok x _ h.1, evBL_ok xs _ h.2]
end
noncomputable def esB : List (Value × EV) → List (Value × EV) → Bool
  | [], [] => true
  | x :: xs, y :: ys => vB x.1 y.1 && evB' x.2 y.2 && esB xs ys
  | _, _ => false
theorem esB_ok : ∀ (x y : List (Value × EV)), esB x y = true → x = y
  | [], y, h => by cases y <;> simp only [esB, Bool.false_eq_true] at h; rfl
  | x :: xs, y, h => by
    cases y <;> simp only [esB, Bool.false_eq_true, Bool.and_eq_true] at h
    rw [esB_ok xs _ h.2]
    have h1 := vB_ok h.1.1
    have h2 := evB'_ok _ _ h.1.2
    rw [Prod.ext h1 h2]
noncomputable def eoB : Option EO → Option EO → Bool
  | none, none => true
  | some (.row t s e l), some (.row t' s' e' l') => Nat.beq t t' && Nat.beq s s' && (e == e') && evBL l l'
  | some (.map l), some (.map l') => esB l l'
  | _, _ => false
theorem eoB_ok {x y : Option EO} (h : eoB x y = true) : x = y := by
  unfold eoB at h
  split at h <;> first | cases h | skip
  · rfl
  · simp only [Bool.and_eq_true, beq_iff_eq] at h
    rw [Nat.eq_of_beq_eq_true h.1.1.1, Nat.eq_of_beq_eq_true h.1.1.2, h.1.2, evBL_ok _ _ h.2]
  · rw [esB_ok _ _ h]

/-- Is it wanted? -/
noncomputable def wantE (all : Array Oper) (o : Oper) (T : Tr EV) : Option Bool :=
  match o.guard with
  | none => some true
  | some (j, b) => match (all[j]?).bind (·.dst) with
    | some t => match T.get t with
      | some (.v (.bool b')) => some (b' == b)
      | some (.t []) => some false
      | _ => none
    | none => none

/-- A call: whom, and with what. -/
noncomputable def callE (op : Op) (ρ : Operand → Option EV) : Option (Nat × List EV) :=
  match op with
  | .call c => match c.callee with
    | .value f => match ρ f, mapE ρ c.args.toList with
      | some (.v (.func (.func g) ⟨[]⟩ ⟨[]⟩)), some es => some (g, es)
      | some (.f (.func g) fs cap), some es => some (g, fs ++ (es ++ cap))
      | _, _ => none
    | _ => none
  | _ => none

/-- A store. -/
noncomputable def evS (P : Program) (op : Op) (ρ : Operand → Option EV) (H : EH) : Option EH :=
  match op with
  | .store t x y => match P.info? t, ρ x, ρ y with
    | some ti, some (.p b off), some e => match cellsE e, H.get b with
      | some c, some (.row ty sz ex cs) => grd (Nat.beq c.length ti.size && Nat.ble (off + c.length) cs.length) (some (H.set FU b (some (.row ty sz ex (setL cs off c)))))
      | _, _ => none
    | _, _, _ => none
  | .mapUpdate t m i x => evMup P t (ρ m) (ρ i) (ρ x) H
  | .insert t m i x => evMup P t (ρ m) (ρ i) (ρ x) H
  | _ => none

/-- A result. -/
noncomputable def resE (P : Program) (L : List (Nat × Array Value)) (H : EH) (T : Tr EV) : List ResultVar → Option (List EV)
  | [] => some []
  | .tmp t :: rs => match T.get t, resE P L H T rs with
    | some e, some es => some (e :: es)
    | _, _ => none
  | .cell x ty :: rs => match aggSize P ty, T.get x, resE P L H T rs with
    | some (some m), some e, some es => (memE L H m e).map fun cs => .a cs :: es
    | some none, some e, some es => match memE L H 1 e with
      | some [v] => some (v :: es)
      | _ => none
    | _, _, _ => none
noncomputable def oneE : List EV → EV
  | [x] => x
  | l => .t l
noncomputable def argE : Nat → List EV → Tr EV → Tr EV
  | _, [], T => T
  | k, e :: es, T => argE (k + 1) es (T.set FU k (some e))
noncomputable def endE : Exit → Bool
  | .normal => true
  | .ret => true
  | _ => false

inductive Tk where
  | code (n : Nat) (c : Code) (T : Tr EV)
  | rnd (n : Nat) (c : Code) (T : Tr EV)
  | ops (n : Nat) (all : Array Oper) (os : List Oper) (T : Tr EV)
  | op (n : Nat) (all : Array Oper) (o : Oper) (T : Tr EV)
  | call (f : Nat) (args : List EV)

structure Rz where
  e : Exit
  T : Tr EV
  v : EV
  H : EH
  nx : Nat

noncomputable def dstB (n : Nat) (o : Oper) : Bool := match o.dst with | some d => Nat.blt d n | none => true

/-! Regions that draw their order. -/
structure Rec where
  o : Oper
  T : Tr EV
  g : EH
  r : Rz
  H0 : EH
  H1 : EH
  lo : Nat
  pm : Nat
  mt : Option (List Nat)

/-- It looks at memory, or sets it. -/
noncomputable def readE : Op → Bool
  | .load _ _ | .store _ _ _ | .call _ | .lookup _ _ _ _ | .mapUpdate _ _ _ _ | .insert _ _ _ _ | .convert _ _ _ => true
  | _ => false
noncomputable def nameE : Option EV → Option Nat
  | some (.p b _) => some b
  | some (.s _ b _ _ _) => some b
  | some (.m b) => some b
  | _ => none
/-- Not touched by it. -/
noncomputable def Rec.un (f : Rec) (b : Nat) : Bool := (Nat.blt b f.lo || Nat.ble f.r.nx b) && eoB (f.H0.get b) (f.H1.get b)
/-- Those ahead of it, as bits. -/
noncomputable def pmE (ms : List Nat) : List Edge → Nat
  | [] => 0
  | e :: es => bif Region.binds .any e then (1 <<< e.on) ||| ms.getD e.on 0 ||| pmE ms es else pmE ms es
/-- Those ahead of it in the text that need not be ahead of it. -/
noncomputable def looseE (pm : Nat) : Nat → List Rec → List Rec
  | _, [] => []
  | i, r :: rs => bif pm.testBit i then looseE pm (i + 1) rs else r :: looseE pm (i + 1) rs
noncomputable def cutT (T : Tr EV) : List Rec → Tr EV
  | [] => T
  | u :: us => match u.o.dst with
    | some d => cutT (T.set FU d none) us
    | none => cutT T us
noncomputable def takeT (T : Tr EV) : List Nat → Tr EV → Tr EV
  | [], g => g
  | b :: bs, g => takeT T bs (bif Nat.blt b LIM then g.set FU b (T.get b) else g)
/-- The temporaries that it looks at. -/
noncomputable def lookE (all : Array Oper) (o : Oper) : List Nat :=
  (match o.guard with | some (j, _) => (match (all[j]?).bind (·.dst) with | some t => [t] | none => []) | none => []) ++ o.op.operands.toList.filterMap fun | .tmp t => some t | _ => none
/-- It sets what those, that need not be ahead of it, do not look at. -/
noncomputable def sepE (d : Option Nat) (us : List Rec) : Bool := match d with
  | some d => us.all fun u => (u.T.get d).isNone
  | none => true
noncomputable def takeH (H : EH) : List Nat → EH → EH
  | [], g => g
  | b :: bs, g => takeH H bs (g.set FU b (H.get b))
noncomputable def cutH : List Nat → EH → EH
  | [], g => g
  | b :: bs, g => cutH bs (g.set FU b none)
noncomputable def edgesB (j : Nat) : List Edge → Bool
  | [] => true
  | e :: es => (!Region.binds .any e || Nat.blt e.on j) && edgesB j es

/-- An operation's class: 0: it looks at no memory and makes none; 1: it looks at memory alone; 2: else. -/
noncomputable def clE : Op → Nat
  | .move _ | .assign _ | .pick _ _ _ | .binOp _ _ _ _ _ | .unOp _ _ _ | .extract _ _ | .fieldAddr _ _ _ | .field _ _ _ | .indexAddr _ _ _ | .index _ _ _ | .makeFunc _ _ _ | .makeInterface _ _ | .typeAssert _ _ _ _ | .nilCheck _ | .build _ _ | .slice _ _ _ _ _ => 0
  | .load _ _ => 1
  | _ => 2

/-- An operation that calls nobody. -/
noncomputable def op1E (P : Program) (L : List (Nat × Array Value)) (n : Nat) (all : Array Oper) (o : Oper) (T : Tr EV) (H : EH) (nx : Nat) : Option (EV × EH × Nat) :=
  grd (dstB n o) (match wantE all o T with
    | some false => some (.t [], H, nx)
    | some true => match clE o.op with
      | 2 => match callE o.op (opE T) with
        | some _ => none
        | none => match evS P o.op (opE T) H with
          | some H' => some (.t [], H', nx)
          | none => match evD P L o.op (opE T) H nx with
            | some (v, H', nx') => grd (Nat.ble nx nx') (some (v, H', nx'))
            | none => none
      | _ => match evD P L o.op (opE T) H nx with
        | some (v, H', nx') => grd (Nat.beq nx nx') (some (v, H', nx'))
        | none => none
    | none => none)

/-! What can be told of a region by its text alone. -/
structure Pl where
  pm : Nat
  look : List Nat
  cl : Nat
  ls : List Nat
noncomputable def isLoose (ps : List Pl) (pm : Nat) (cl : Nat) : Nat → List Pl → List Nat
  | _, [] => []
  | i, p :: qs => bif pm.testBit i || Nat.beq cl 0 || Nat.beq p.cl 0 || (Nat.beq cl 1 && Nat.beq p.cl 1) then isLoose ps pm cl (i + 1) qs else i :: isLoose ps pm cl (i + 1) qs
/-- No temporary is set by one, and looked at by another one, that are not ordered. -/
noncomputable def sepB (ds : List (Option Nat)) (pm : Nat) (dst : Option Nat) (look : List Nat) : Nat → List Pl → Bool
  | _, [] => true
  | i, p :: ps => (pm.testBit i || ((match ds.getD i none with | some d => !memN d look | none => true) && (match dst with | some d => !memN d p.look | none => true))) && sepB ds pm dst look (i + 1) ps
/-- Each operation's plan; none: not to be reckoned. -/
noncomputable def plE (all : Array Oper) : List Oper → List (Option Nat) → List Pl → Option (List Pl)
  | [], _, ps => some ps
  | o :: os, ds, ps =>
    let pm := pmE (ps.map Pl.pm) o.after.toList
    let look := lookE all o
    let cl := clE o.op
    bif edgesB ps.length o.after.toList && sepB ds pm o.dst look 0 ps && look.all fun t => Nat.blt t LIM then plE all os (ds ++ [o.dst]) (ps ++ [⟨pm, look, cl, isLoose ps pm cl 0 ps⟩]) else none

noncomputable def recsAt (rs : List Rec) : List Nat → List Rec
  | [] => []
  | i :: is => match rs[i]? with
    | some r => r :: recsAt rs is
    | none => recsAt rs is
noncomputable def rzE (v : EV) (H : EH) (nx : Nat) : Rz := ⟨.normal, .nil, v, H, nx⟩

noncomputable def stepE (P : Program) (L : List (Nat × Array Value)) (evf : Tk → EH → Nat → Option Rz) (n : Nat) (all : Array Oper) (rs : List Rec) (T : Tr EV) (H : EH) (nx : Nat) (o : Oper) (p : Pl) : Option Rec :=
  let T' := takeT T p.look .nil
  match p.cl with
  | 0 => match op1E P L n all o T' .nil nx with
    | some (v, H', nx') => grd (Nat.beq nx' nx) (some ⟨o, T', .nil, rzE v H' nx', H, H, nx, p.pm, some []⟩)
    | none => none
  | 1 =>
    let us := recsAt rs p.ls
    let mts := (o.op.operands.toList.filterMap fun x => nameE (opE T' x)).filter fun b => (H.get b).isSome && Nat.blt b LIM
    let g := takeH H mts .nil
    grd (us.all fun u => mts.all u.un) (match op1E P L n all o T' g nx with
    | some (v, H', nx') => grd (Nat.beq nx' nx) (some ⟨o, T', g, rzE v H' nx', H, H, nx, p.pm, some mts⟩)
    | none => none)
  | _ =>
    let us := recsAt rs p.ls
    match callE o.op (opE T') with
    | none =>
      let mts := (bif readE o.op then o.op.operands.toList.filterMap fun x => nameE (opE T' x) else []).filter fun b => (H.get b).isSome && Nat.blt b LIM
      let g := takeH H mts .nil
      grd (us.all fun u => mts.all u.un) (match op1E P L n all o T' g nx with
      | some (v, H', nx') =>
        let H1 := takeH H' (List.range' nx (nx' - nx)) (takeH H' mts H)
        grd (Nat.ble nx' LIM && us.all fun u => (u.mt.getD mts).all fun b => eoB (H.get b) (H1.get b)) (some ⟨o, T', g, rzE v H' nx', H, H1, nx, p.pm, some mts⟩)
      | none => none)
    | some _ =>
      let L := us.flatMap fun u => List.range' u.lo (u.r.nx - u.lo) ++ (u.mt.getD []).filter fun b => !u.un b
      let g := cutH L H
      grd (us.all (·.mt.isSome) && L.all fun b => Nat.blt b nx && Nat.blt b LIM) (match evf (.op n all o T') g nx with
      | some r =>
        let H1 := takeH H L r.H
        grd (us.all fun u => (u.mt.getD []).all fun b => eoB (H.get b) (H1.get b)) (some ⟨o, T', g, r, H, H1, nx, p.pm, none⟩)
      | none => none)

noncomputable def drwE (P : Program) (L : List (Nat × Array Value)) (evf : Tk → EH → Nat → Option Rz) (n : Nat) (all : Array Oper) : List Oper → List Pl → List Rec → Tr EV → EH → Nat → Option (List Rec × Tr EV × EH × Nat)
  | [], _, rs, T, H, nx => some (rs, T, H, nx)
  | o :: os, p :: ps, rs, T, H, nx => match stepE P L evf n all rs T H nx o p with
    | some r => drwE P L evf n all os ps (rs ++ [r]) (putE T o.dst r.r.v) r.H1 r.r.nx
    | none => none
  | _, _, _, _, _, _ => none

noncomputable def dstsE : List Oper → List Nat
  | [] => []
  | o :: os => match o.dst with
    | some d => d :: dstsE os
    | none => dstsE os
noncomputable def nodupE : List Nat → Bool
  | [] => true
  | x :: xs => !memN x xs && nodupE xs
end Go.Proofs.YtaopcacmfhdfkaaGreatDoor.Ev

namespace Go.Proofs.YtaopcacmfhdfkaaGreatDoor.Ev
open Go Go.RowKit Go.Proofs.YtaopcacmfhdfkaaGreatDoor.Vc
set_option linter.unusedSimpArgs false
set_option linter.unusedVariables false

/-- Regions that draw their order. -/
noncomputable def drawE (P : Program) (L : List (Nat × Array Value)) (evf : Tk → EH → Nat → Option Rz) (n : Nat) (ops : Array Oper) (T : Tr EV) (H : EH) (nx : Nat) : Option Rz :=
  grd (P.follows .mixedOrders && nodupE (dstsE ops.toList) && (dstsE ops.toList).all fun d => Nat.blt d n && Nat.blt d LIM) (match plE ops ops.toList [] [] with
    | some ps => match drwE P L evf n ops ops.toList ps [] T H nx with
      | some (_, T', H', nx') => some ⟨.normal, T', .t [], H', nx'⟩
      | none => none
    | none => none)
noncomputable def callS (P : Program) (L : List (Nat × Array Value)) (kn : Nat → List EV → EH → Nat → Option Rz) (evf : Tk → EH → Nat → Option Rz) (f : Nat) (args : List EV) (H : EH) (nx : Nat) : Option Rz :=
  match kn f args H nx with
  | some r => some r
  | none => match P.funcs[f]? with
    | some fn => match fn.body with
      | some code => grd (!(fn.name == "runtime.NumGoroutine") && Nat.blt fn.ntmps LIM && Nat.ble args.length fn.ntmps) (match evf (.code fn.ntmps code (argE 0 args .nil)) H nx with
        | some r => grd (endE r.e) ((resE P L r.H r.T fn.results.toList).map fun vs => ⟨.normal, .nil, oneE vs, r.H, r.nx⟩)
        | none => none)
      | none => none
    | none => none
noncomputable def opsS (P : Program) (L : List (Nat × Array Value)) (evf : Tk → EH → Nat → Option Rz) (n : Nat) (all : Array Oper) (os : List Oper) (T : Tr EV) (H : EH) (nx : Nat) : Option Rz :=
  match os with
  | [] => some ⟨.normal, T, .t [], H, nx⟩
  | o :: os => match clE o.op with
    | 2 => match evf (.op n all o T) H nx with
      | some r => evf (.ops n all os (putE T o.dst r.v)) r.H r.nx
      | none => none
    | _ => match op1E P L n all o T H nx with
      | some (v, H', nx') => evf (.ops n all os (putE T o.dst v)) H' nx'
      | none => none
noncomputable def opS (P : Program) (L : List (Nat × Array Value)) (evf : Tk → EH → Nat → Option Rz) (n : Nat) (all : Array Oper) (o : Oper) (T : Tr EV) (H : EH) (nx : Nat) : Option Rz :=
  match op1E P L n all o T H nx with
  | some (v, H', nx') => some (rzE v H' nx')
  | none => grd (dstB n o) (match wantE all o T with
    | some true => match callE o.op (opE T) with
      | some q => evf (.call q.1 q.2) H nx
      | none => none
    | _ => none)
noncomputable def rndS (evf : Tk → EH → Nat → Option Rz) (n : Nat) (c : Code) (T : Tr EV) (H : EH) (nx : Nat) : Option Rz :=
  match evf (.code n c T) H nx with
  | some r => match r.e with
    | .normal => evf (.rnd n c r.T) r.H r.nx
    | _ => some r
  | none => none
noncomputable def seqS (evf : Tk → EH → Nat → Option Rz) (n : Nat) (x y : Code) (T : Tr EV) (H : EH) (nx : Nat) : Option Rz :=
  match evf (.code n x T) H nx with
  | some r => match r.e with
    | .normal => evf (.code n y r.T) r.H r.nx
    | _ => some r
  | none => none
noncomputable def condS (evf : Tk → EH → Nat → Option Rz) (n : Nat) (x : Operand) (y z : Code) (T : Tr EV) (H : EH) (nx : Nat) : Option Rz :=
  match opE T x with
  | some (.v (.bool true)) => evf (.code n y T) H nx
  | some (.v (.bool false)) => evf (.code n z T) H nx
  | _ => none
noncomputable def blockS (evf : Tk → EH → Nat → Option Rz) (n id : Nat) (x : Code) (T : Tr EV) (H : EH) (nx : Nat) : Option Rz :=
  match evf (.code n x T) H nx with
  | some r => match r.e with
    | .exit j => bif Nat.beq j id then some ⟨.normal, r.T, r.v, r.H, r.nx⟩ else some r
    | _ => some r
  | none => none
noncomputable def codeS (P : Program) (L : List (Nat × Array Value)) (evf : Tk → EH → Nat → Option Rz) (n : Nat) (c : Code) (T : Tr EV) (H : EH) (nx : Nat) : Option Rz :=
  match c with
  | .skip => some ⟨.normal, T, .t [], H, nx⟩
  | .label _ => some ⟨.normal, T, .t [], H, nx⟩
  | .exit i => some ⟨.exit i, T, .t [], H, nx⟩
  | .ret => some ⟨.ret, T, .t [], H, nx⟩
  | .region _ ops false => opsS P L evf n ops ops.toList T H nx
  | .region _ ops true => drawE P L evf n ops T H nx
  | .seq x y => seqS evf n x y T H nx
  | .cond x y z => condS evf n x y z T H nx
  | .block id x => blockS evf n id x T H nx
  | .loop x => evf (.rnd n x T) H nx
  | _ => none
noncomputable def stepS (P : Program) (L : List (Nat × Array Value)) (kn : Nat → List EV → EH → Nat → Option Rz) (evf : Tk → EH → Nat → Option Rz) (tk : Tk) (H : EH) (nx : Nat) : Option Rz :=
  match tk with
  | .call f args => callS P L kn evf f args H nx
  | .ops n all os T => opsS P L evf n all os T H nx
  | .op n all o T => opS P L evf n all o T H nx
  | .rnd n c T => rndS evf n c T H nx
  | .code n c T => codeS P L evf n c T H nx
/-- Reckoned, with so much fuel; kn: functions that are known otherwise. -/
noncomputable def ev (P : Program) (L : List (Nat × Array Value)) (kn : Nat → List EV → EH → Nat → Option Rz) : Nat → Tk → EH → Nat → Option Rz
  | 0 => fun _ _ _ => none
  | k + 1 => stepS P L kn (ev P L kn k)

/-- What is owed behind code. -/
noncomputable def QE (M : Nm) (h : Nat → Option EO) (w : World) (n nx : Nat) (r : Rz) : Exit → Act → World → Prop :=
  fun e a' w' => e = r.e ∧ ∃ M', EA M' r.H.get r.T.get n a' w' ∧ Stp M h w M' r.H.get w' ∧ Gr M M' nx r.nx
theorem QE.step {M M1 : Nm} {h h1 : Nat → Option EO} {w w1 : World} {n nx nx1 : Nat} {r : Rz} (hs : Stp M h w M1 h1 w1) (g : Gr M M1 nx nx1) (l1 : nx ≤ nx1) (l2 : nx1 ≤ r.nx) {e : Exit} {a : Act} {w' : World} (q : QE M1 h1 w1 n nx1 r e a w') : QE M h w n nx r e a w' := by
  obtain ⟨h1, M', h2, h3, h4⟩ := q
  exact ⟨h1, M', h2, hs.trans h3, g.trans h4 l1 l2⟩

/-- What each task's result says. -/
noncomputable def SdT (P : Program) [Lay P] (H : EH) (nx : Nat) (r : Rz) : Tk → Prop
  | .call f args => callable P f ∧ ∀ (M : Nm) (w : World) (vs : List Value), EI M H.get w → Fr P M nx r.nx → ERL M args vs →
      Calls P f vs.toArray w fun e w' => ∃ v M', e = .returned v ∧ EI M' r.H.get w' ∧ Stp M H.get w M' r.H.get w' ∧ Gr M M' nx r.nx ∧ ER M' r.v v
  | .code n c T => ∀ (M : Nm) (a : Act) (w : World), EA M H.get T.get n a w → Fr P M nx r.nx → c.wp P (QE M H.get w n nx r) a w
  | .rnd n c T => ∀ (M : Nm) (a : Act) (w : World), EA M H.get T.get n a w → Fr P M nx r.nx → ∀ (b : Frame) (k : List Item) (cs : List Frame), ∃ e a' w', QE M H.get w n nx r e a' w' ∧ Arrives P (lone (b.at a (.code c :: .inLoop c :: k)) cs w) b k cs e a' w'
  | .ops n all os T => ∀ (M : Nm) (a : Act) (w : World) (i : Nat), EA M H.get T.get n a w → Fr P M nx r.nx → os = all.toList.drop i → ∀ Q : Exit → Act → World → Prop, (∀ e a' w', QE M H.get w n nx r e a' w' → Q e a' w') → wpOps P all Q (List.range' i os.length) a w
  | .op n all o T => (∀ t, o.dst = some t → t < n) ∧ ∀ (M : Nm) (a : Act) (w : World), EA M H.get T.get n a w → Fr P M nx r.nx → ∀ (Q : Exit → Act → World → Prop) (K : Act → World → Prop), (∀ M' v w', EI M' r.H.get w' → Stp M H.get w M' r.H.get w' → Gr M M' nx r.nx → ER M' r.v v → K (a.put o.dst v) w') →
      if Region.wanted o (yielded all a.tmps) = true then o.wp P a w K Q else K (a.put o.dst undef) w
noncomputable def Sd (P : Program) [Lay P] (H : EH) (nx : Nat) (r : Rz) (tk : Tk) : Prop := nx ≤ r.nx ∧ SdT P H nx r tk

section
variable {P : Program} [Lay P]

theorem wantE_ok {M : Nm} {h : Nat → Option EO} {T : Tr EV} {n : Nat} {a : Act} {w : World} (h : EA M h T.get n a w) {all : Array Oper} {o : Oper} {b : Bool} (hb : wantE all o T = some b) : Region.wanted o (yielded all a.tmps) = b := by
  unfold wantE at hb
  split at hb
  · rename_i hg
    obtain rfl := Option.some.inj hb
    simp [Region.wanted, hg]
  · rename_i j b0 hg
    split at hb
    · rename_i t ht
      split at hb
      · rename_i b' hT
        obtain rfl := Option.some.inj hb
        have h1 := of_v (h.tm t _ hT)
        rw [Array.getD_eq_getD_getElem?] at h1
        have h2 : a.tmps[t]? = some (.bool b') := by
          cases hx : a.tmps[t]? with
          | none => rw [hx] at h1; simp [undef] at h1
          | some v => rw [hx] at h1; simpa using h1
        have hy : yielded all a.tmps j = some b' := by simp [yielded, ht, h2]
        simp only [Region.wanted, hg, hy]
        cases b' <;> cases b0 <;> rfl
      · rename_i hT
        obtain rfl := Option.some.inj hb
        have h1 := h.tm t _ hT
        simp only [ER] at h1
        obtain ⟨us, h1, h2⟩ := h1
        simp only [ERL] at h2
        subst h2
        rw [Array.getD_eq_getD_getElem?] at h1
        have hy : yielded all a.tmps j = none := by
          cases hx : a.tmps[t]? with
          | none => simp [yielded, ht, hx]
          | some v => rw [hx] at h1; simp at h1; subst h1; simp [yielded, ht, hx]
        simp [Region.wanted, hg, hy]
      · cases hb
    · cases hb

theorem er_undef {M : Nm} : ER M (.t []) undef := by simp only [ER, ERL]; exact ⟨[], rfl, rfl⟩

theorem evS_ok {M : Nm} {H : EH} {w : World} {a : Act} {ρ : Operand → Option EV} (h : EI M H.get w) (hρ : ∀ x e, ρ x = some e → ER M e (a.eval x)) {op : Op} {H' : EH} (hr : evS P op ρ H = some H') : OkS P a M H w op H' := by
  have _ := ‹Lay P›
  unfold evS at hr
  split at hr
  · split at hr
    · rename_i h1 h2 h3
      split at hr
      · rename_i h4 h5
        obtain ⟨h6, h7⟩ := grd_some hr
        obtain rfl := Option.some.inj h7
        rw [Bool.and_eq_true] at h6
        exact ok_store h hρ h1 h2 h3 h4 (Nat.eq_of_beq_eq_true h6.1) h5 (Nat.le_of_ble_eq_true h6.2)
      · cases hr
    · cases hr
  · obtain ⟨w', h1, h2, h3⟩ := evMup_ok h hρ hr
    exact fun o ho => ⟨w', by simp [execOp, ho, h1], h2, h3⟩
  · obtain ⟨w', h1, h2, h3⟩ := evMup_ok h hρ hr
    exact fun o ho => ⟨w', by simp [execOp, ho, h1], h2, h3⟩
  · cases hr

/-- The operation that calls. -/
theorem callE_ok {M : Nm} {h : Nat → Option EO} {T : Tr EV} {n : Nat} {a : Act} {w : World} (h : EA M h T.get n a w) {o : Oper} {g : Nat} {es : List EV} (hc : callable P g) (hr : callE o.op (opE T) = some (g, es)) : ∃ vs : List Value, ERL M es vs ∧ (execOp a.eval o).run P w = .ok (.enter g vs.toArray) w := by
  unfold callE at hr
  split at hr
  · rename_i c ho
    obtain ⟨cl, xs, ts⟩ := c
    simp only at hr
    split at hr
    · rename_i f
      split at hr
      · rename_i g' es' h1 h2
        simp only [Option.some.injEq, Prod.mk.injEq] at hr
        obtain ⟨rfl, rfl⟩ := hr
        have he := of_v (h.op _ _ h1)
        refine ⟨xs.toList.map a.eval, mapE_ok h.op h2, ?_⟩
        have := call_run (w := w) (xs := xs) (ts := ts) (cs := []) hc ho he
        simpa using this
      · rename_i gg fs cap es' h1 h2
        simp only [Option.some.injEq, Prod.mk.injEq] at hr
        obtain ⟨rfl, rfl⟩ := hr
        have he := h.op _ _ h1
        simp only [ER] at he
        obtain ⟨vs, us, he, h0, h3⟩ := he
        refine ⟨vs ++ (xs.toList.map a.eval ++ us), h0.append ((mapE_ok h.op h2).append h3), ?_⟩
        obtain ⟨fn, c, h5, h6, h7⟩ := hc
        have h7' : (fn.name == "runtime.NumGoroutine") = false := h7
        simp [execOp, ho, resolve, he, Deferred.ofValue, invoke, callFunc, h5, h6]
        rw [if_neg (by simpa using h7')]
        exact congrArg (fun l => Result.ok (Next.enter gg l) w) (by apply Array.ext'; simp)
      · cases hr
    · cases hr
  · cases hr

theorem dstB_ok {n : Nat} {o : Oper} (h : dstB n o = true) : ∀ t, o.dst = some t → t < n := by
  intro t ht
  unfold dstB at h
  rw [ht] at h
  exact Nat.le_of_ble_eq_true h

/-- An operation that calls nobody. -/
theorem op1_Sd {n : Nat} {all : Array Oper} {o : Oper} {T : Tr EV} {H : EH} {nx : Nat} {v : EV} {H' : EH} {nx' : Nat} (h : op1E P (Lay.cells P) n all o T H nx = some (v, H', nx')) : Sd P H nx (rzE v H' nx') (.op n all o T) := by
  unfold op1E at h
  obtain ⟨hd, h⟩ := grd_some h
  replace hd := dstB_ok hd
  have dd : ∀ {nx1 : Nat}, nx ≤ nx1 → wantE all o T = some true → evD P (Lay.cells P) o.op (opE T) H nx = some (v, H', nx1) → Sd P H nx (rzE v H' nx1) (.op n all o T) := fun {nx1} hle hw hv =>
    ⟨hle, hd, fun M a w hA hf Q K hK => by
      rw [if_pos (wantE_ok hA hw)]
      obtain ⟨y, w1, M1, h1, h2, h3, h4, h5⟩ := (evD_ok hA.hp hA.op (by rw [hf.1]; exact hv)).2 hf.2 o rfl
      unfold Oper.wp
      rw [h1]
      simp only [Oper.upon]
      exact hK M1 y w1 h2 h3 ⟨h3.le.L, h4⟩ h5⟩
  split at h
  · rename_i hw
    simp only [Option.some.injEq, Prod.mk.injEq] at h
    obtain ⟨rfl, rfl, rfl⟩ := h
    refine ⟨Nat.le_refl _, hd, fun M a w hA _ Q K hK => ?_⟩
    rw [if_neg (by rw [wantE_ok hA hw]; simp)]
    exact hK M _ w hA.hp (.refl M H.get w hA.hp) (.refl M _ _) er_undef
  · rename_i hw
    split at h
    · split at h
      · cases h
      · split at h
        · rename_i H1 hs
          simp only [Option.some.injEq, Prod.mk.injEq] at h
          obtain ⟨rfl, rfl, rfl⟩ := h
          refine ⟨Nat.le_refl _, hd, fun M a w hA hf Q K hK => ?_⟩
          rw [if_pos (wantE_ok hA hw)]
          obtain ⟨w1, h1, h2, h3⟩ := evS_ok (P := P) hA.hp hA.op hs o rfl
          unfold Oper.wp
          rw [h1]
          simp only [Oper.upon]
          exact hK M undef w1 h2 h3 (.refl M _ _) er_undef
        · split at h
          · rename_i v1 H1 nx1 hv
            obtain ⟨hle, h⟩ := grd_some h
            simp only [Option.some.injEq, Prod.mk.injEq] at h
            obtain ⟨rfl, rfl, rfl⟩ := h
            exact dd (Nat.le_of_ble_eq_true hle) hw hv
          · cases h
    · split at h
      · rename_i v1 H1 nx1 hv
        obtain ⟨hle, h⟩ := grd_some h
        simp only [Option.some.injEq, Prod.mk.injEq] at h
        obtain ⟨rfl, rfl, rfl⟩ := h
        exact dd (Nat.le_of_eq (Nat.eq_of_beq_eq_true hle)) hw hv
      · cases h
  · cases h

/-- An operation. -/
theorem opS_Sd {evf : Tk → EH → Nat → Option Rz} (ih : ∀ (tk : Tk) (H : EH) (nx : Nat) (r : Rz), evf tk H nx = some r → Sd P H nx r tk) {n : Nat} {all : Array Oper} {o : Oper} {T : Tr EV} {H : EH} {nx : Nat} {r : Rz} (h : opS P (Lay.cells P) evf n all o T H nx = some r) : Sd P H nx r (.op n all o T) := by
  unfold opS at h
  split at h
  · rename_i hr
    obtain rfl := Option.some.inj h
    exact op1_Sd hr
  · obtain ⟨hd, h⟩ := grd_some h
    replace hd := dstB_ok hd
    split at h
    · rename_i hw
      split at h
      · rename_i q hc
        obtain ⟨hle, hcl, hs⟩ := ih _ _ _ _ h
        refine ⟨hle, hd, fun M a w hA hf Q K hK => ?_⟩
        rw [if_pos (wantE_ok hA hw)]
        obtain ⟨vs, h1, h2⟩ := callE_ok hA hcl hc
        unfold Oper.wp
        rw [h2]
        simp only [Oper.upon]
        refine (hs M w vs hA.hp hf h1).mono ?_
        rintro e w1 ⟨v, M1, rfl, h3, h4, h5, h6⟩
        exact hK M1 v w1 h3 h4 h5 h6
      · cases h
    · cases h
end
end Go.Proofs.YtaopcacmfhdfkaaGreatDoor.Ev

namespace Go.Proofs.YtaopcacmfhdfkaaGreatDoor.Ev
open Go Go.RowKit Go.Proofs.YtaopcacmfhdfkaaGreatDoor.Vc
set_option linter.unusedSimpArgs false
set_option linter.unusedVariables false

theorem takeH_get {H : EH} : ∀ (bs : List Nat) (g : EH) (b : Nat), (∀ x ∈ bs, x < LIM) → (takeH H bs g).get b = if b ∈ bs then H.get b else g.get b
  | [], g, b, _ => by simp [takeH]
  | x :: bs, g, b, h => by
    simp only [takeH]
    rw [takeH_get bs _ b (fun y hy => h y (by simp [hy])), Tr.get_set _ _ _ _ _ (lim_fu (h x (by simp)))]
    by_cases h1 : b ∈ bs
    · simp [h1]
    · by_cases h2 : b = x
      · subst h2; simp
      · simp [h1, h2]
theorem cutH_get : ∀ (bs : List Nat) (g : EH) (b : Nat), (∀ x ∈ bs, x < LIM) → (cutH bs g).get b = if b ∈ bs then none else g.get b
  | [], g, b, _ => by simp [cutH]
  | x :: bs, g, b, h => by
    simp only [cutH]
    rw [cutH_get bs _ b (fun y hy => h y (by simp [hy])), Tr.get_set _ _ _ _ _ (lim_fu (h x (by simp)))]
    by_cases h1 : b ∈ bs
    · simp [h1]
    · by_cases h2 : b = x
      · subst h2; simp
      · simp [h1, h2]
theorem takeT_get {T : Tr EV} : ∀ (bs : List Nat) (g : Tr EV) (t : Nat) (e : EV), (∀ t e, g.get t = some e → T.get t = some e) → (takeT T bs g).get t = some e → T.get t = some e
  | [], g, t, e, h, hg => h t e hg
  | x :: bs, g, t, e, h, hg => by
    simp only [takeT] at hg
    refine takeT_get bs _ t e (fun t' e' h' => ?_) hg
    cases hb : Nat.blt x LIM with
    | false => rw [hb] at h'; exact h t' e' h'
    | true =>
      rw [hb] at h'
      simp only [cond_true] at h'
      rw [Tr.get_set _ _ _ _ _ (lim_fu (Nat.le_of_ble_eq_true hb))] at h'
      split at h'
      · rename_i e1; rw [e1]; exact h'
      · exact h t' e' h'
theorem takeT_dom {T : Tr EV} : ∀ (bs : List Nat) (g : Tr EV) (t : Nat), (takeT T bs g).get t ≠ none → t ∈ bs ∨ g.get t ≠ none
  | [], g, t, h => .inr h
  | x :: bs, g, t, h => by
    simp only [takeT] at h
    rcases takeT_dom bs _ t h with h1 | h1
    · exact .inl (List.mem_cons_of_mem _ h1)
    · cases hb : Nat.blt x LIM with
      | false => rw [hb] at h1; exact .inr h1
      | true =>
        rw [hb] at h1
        simp only [cond_true] at h1
        rw [Tr.get_set _ _ _ _ _ (lim_fu (Nat.le_of_ble_eq_true hb))] at h1
        split at h1
        · rename_i e; exact .inl (by simp [e])
        · exact .inr h1
theorem recsAt_mem {rs : List Rec} : ∀ {is : List Nat} {u : Rec}, u ∈ recsAt rs is → u ∈ rs
  | [], u, h => by simp [recsAt] at h
  | i :: is, u, h => by
    simp only [recsAt] at h
    split at h
    · rename_i r hr
      rcases List.mem_cons.1 h with rfl | h
      · exact List.mem_of_getElem? hr
      · exact recsAt_mem h
    · exact recsAt_mem h
theorem mem_recsAt {rs : List Rec} : ∀ (is : List Nat) (i : Nat) (u : Rec), i ∈ is → rs[i]? = some u → u ∈ recsAt rs is
  | [], i, u, h, _ => by simp at h
  | j :: is, i, u, h, hu => by
    simp only [recsAt]
    rcases List.mem_cons.1 h with h1 | h1
    · subst h1; rw [hu]; exact List.mem_cons_self ..
    · have := mem_recsAt is i u h1 hu
      cases rs[j]? with
      | none => exact this
      | some r => exact List.mem_cons_of_mem _ this
theorem pmE_bit {ms : List Nat} : ∀ {es : List Edge} {i : Nat}, (pmE ms es).testBit i = true → ∃ e ∈ es, Region.binds .any e = true ∧ (e.on = i ∨ (ms.getD e.on 0).testBit i = true)
  | [], i, h => by simp [pmE] at h
  | e :: es, i, h => by
    simp only [pmE] at h
    cases hb : Region.binds .any e with
    | false =>
      rw [hb] at h
      obtain ⟨e', h1, h2⟩ := pmE_bit (es := es) (by simpa using h)
      exact ⟨e', by simp [h1], h2⟩
    | true =>
      rw [hb] at h
      simp only [cond_true, Nat.testBit_or, Bool.or_eq_true] at h
      rcases h with (h | h) | h
      · rw [Nat.testBit_shiftLeft] at h
        simp only [Bool.and_eq_true, decide_eq_true_eq] at h
        have : i - e.on = 0 := by
          rcases Nat.eq_zero_or_pos (i - e.on) with h0 | h0
          · exact h0
          · have := Nat.testBit_one_eq_true_iff_self_eq_zero.1 h.2; exact this
        exact ⟨e, by simp, hb, .inl (by omega)⟩
      · exact ⟨e, by simp, hb, .inr h⟩
      · obtain ⟨e', h1, h2⟩ := pmE_bit (es := es) h
        exact ⟨e', by simp [h1], h2⟩
theorem edgesB_ok {j : Nat} : ∀ {es : List Edge}, edgesB j es = true → ∀ e ∈ es, Region.binds .any e = true → e.on < j
  | [], _, e, he, _ => by simp at he
  | x :: es, h, e, he, hb => by
    simp only [edgesB, Bool.and_eq_true, Bool.or_eq_true, Bool.not_eq_true'] at h
    rcases List.mem_cons.1 he with rfl | he
    · rcases h.1 with h1 | h1
      · rw [hb] at h1; cases h1
      · exact Nat.le_of_ble_eq_true h1
    · exact edgesB_ok h.2 e he hb

noncomputable def Un (u : Rec) (b : Nat) : Prop := (b < u.lo ∨ u.r.nx ≤ b) ∧ u.H0.get b = u.H1.get b
theorem un_ok {u : Rec} {b : Nat} (h : u.un b = true) : Un u b := by
  unfold Rec.un at h
  rw [Bool.and_eq_true, Bool.or_eq_true] at h
  exact ⟨h.1.imp Nat.le_of_ble_eq_true Nat.le_of_ble_eq_true, eoB_ok h.2⟩
noncomputable def S1 (u : Rec) : Prop := ∀ l, u.mt = some l → ∀ b, b ∉ l → u.g.get b = none ∧ (¬ (u.lo ≤ b ∧ b < u.r.nx) → u.H1.get b = u.H0.get b)

/-- Pairs that need no look. -/
noncomputable def Skip (c c' : Nat) : Prop := c = 0 ∨ c' = 0 ∨ (c = 1 ∧ c' = 1)
structure Cls (R : Rec) : Prop where
  c0 : clE R.o.op = 0 → R.g = .nil
  c1 : clE R.o.op = 0 ∨ clE R.o.op = 1 → R.H1 = R.H0 ∧ R.r.nx = R.lo

structure RecOk (P : Program) [Lay P] (n : Nat) (all : Array Oper) (rs : List Rec) (T : Tr EV) (H : EH) (nx : Nat) (R : Rec) : Prop where
  h0 : R.H0 = H
  lo : R.lo = nx
  edge : ∀ e ∈ R.o.after.toList, Region.binds .any e = true → e.on < rs.length
  bits : ∀ i, R.pm.testBit i = true → ∃ e ∈ R.o.after.toList, Region.binds .any e = true ∧ (e.on = i ∨ ((rs.map Rec.pm).getD e.on 0).testBit i = true)
  sd : Sd P R.g R.lo R.r (.op n all R.o R.T)
  a : ∀ b o, R.g.get b = some o → R.H0.get b = some o
  b : ∀ b, (R.g.get b ≠ none ∨ R.lo ≤ b ∧ b < R.r.nx) → R.H1.get b = R.r.H.get b
  c : ∀ b, R.g.get b = none → ¬ (R.lo ≤ b ∧ b < R.r.nx) → R.H1.get b = R.H0.get b ∨ (R.H0.get b = none ∧ R.H1.get b = R.r.H.get b)
  t : ∀ t e, R.T.get t = some e → T.get t = some e ∧ ∀ (i : Nat) u, rs[i]? = some u → R.pm.testBit i = false → u.o.dst ≠ some t
  u1 : ∀ (i : Nat) u, rs[i]? = some u → R.pm.testBit i = false → ∀ b, R.g.get b ≠ none → Un u b
  u2 : ∀ (i : Nat) u, rs[i]? = some u → R.pm.testBit i = false → ∀ b, u.g.get b ≠ none → (R.lo ≤ b ∧ b < R.r.nx) ∨ R.H0.get b = R.H1.get b
  t2 : ∀ (i : Nat) u, rs[i]? = some u → R.pm.testBit i = false → ∀ d, R.o.dst = some d → u.T.get d = none
  s1 : S1 R
  dm : ∀ t, R.T.get t ≠ none → t ∈ lookE all R.o
  cls : Cls R

/-- What a plan says. -/
structure PlanOk (all : Array Oper) (rs : List Rec) (o : Oper) (p : Pl) : Prop where
  pm : p.pm = pmE (rs.map Rec.pm) o.after.toList
  look : p.look = lookE all o
  cl : p.cl = clE o.op
  ls : ∀ (i : Nat) u, rs[i]? = some u → p.pm.testBit i = false → ¬ Skip (clE o.op) (clE u.o.op) → i ∈ p.ls
  ed : edgesB rs.length o.after.toList = true
  sep : ∀ (i : Nat) u, rs[i]? = some u → p.pm.testBit i = false → (∀ d, u.o.dst = some d → d ∉ lookE all o) ∧ (∀ d, o.dst = some d → d ∉ lookE all u.o)

theorem cl1_op {o : Oper} (h : clE o.op = 1) : ∃ t x, o.op = .load t x := by
  cases hop : o.op <;> rw [hop] at h <;> simp [clE] at h
  exact ⟨_, _, rfl⟩
theorem evLoad_heap {P : Program} {L : List (Nat × Array Value)} {t : TypeId} {x : Option EV} {H : EH} {nx : Nat} {v : EV} {H' : EH} {nx' : Nat} (h : evLoad P L t x H nx = some (v, H', nx')) : H' = H := by
  unfold evLoad at h
  split at h
  · simp only [Option.map_eq_some_iff, Prod.mk.injEq] at h
    obtain ⟨_, _, _, h, _⟩ := h
    exact h.symm
  · split at h
    · simp only [Option.some.injEq, Prod.mk.injEq] at h; exact h.2.1.symm
    · cases h
  · cases h

theorem op1_load {P : Program} {L : List (Nat × Array Value)} {n : Nat} {all : Array Oper} {o : Oper} {T : Tr EV} {H : EH} {nx : Nat} {v : EV} {H' : EH} {nx' : Nat} (h : op1E P L n all o T H nx = some (v, H', nx')) (hc : clE o.op = 1) : H' = H := by
  obtain ⟨t, x, hop⟩ := cl1_op hc
  unfold op1E at h
  obtain ⟨_, h⟩ := grd_some h
  split at h
  · simp only [Option.some.injEq, Prod.mk.injEq] at h; exact h.2.1.symm
  · rw [hop] at h
    simp only [clE, evD] at h
    split at h
    · rename_i hv
      obtain ⟨_, h⟩ := grd_some h
      simp only [Option.some.injEq, Prod.mk.injEq] at h
      rw [← h.2.1]
      exact evLoad_heap hv
    · cases h
  · cases h

section
variable {P : Program} [Lay P]

theorem stepE_ok {evf : Tk → EH → Nat → Option Rz} (ih : ∀ (tk : Tk) (H : EH) (nx : Nat) (r : Rz), evf tk H nx = some r → Sd P H nx r tk) {n : Nat} {all : Array Oper} {rs : List Rec} {T : Tr EV} {H : EH} {nx : Nat} {o : Oper} {p : Pl} {R : Rec}
    (hrs : ∀ u ∈ rs, S1 u ∧ (∀ t, u.T.get t ≠ none → t ∈ lookE all u.o) ∧ Cls u) (hp : PlanOk all rs o p) (h : stepE P (Lay.cells P) evf n all rs T H nx o p = some R) : R.o = o ∧ R.pm = p.pm ∧ RecOk P n all rs T H nx R := by
  unfold stepE at h
  simp only at h
  have hbits : ∀ i, p.pm.testBit i = true → ∃ e ∈ o.after.toList, Region.binds .any e = true ∧ (e.on = i ∨ ((rs.map Rec.pm).getD e.on 0).testBit i = true) := fun i hi => by rw [hp.pm] at hi; exact pmE_bit hi
  have hdm : ∀ t, (takeT T p.look .nil).get t ≠ none → t ∈ lookE all o := fun t ht => by
    rcases takeT_dom _ _ _ ht with h1 | h1
    · rw [← hp.look]; exact h1
    · simp [Tr.get_nil] at h1
  have htt : ∀ t e, (takeT T p.look .nil).get t = some e → T.get t = some e ∧ ∀ (i : Nat) u, rs[i]? = some u → p.pm.testBit i = false → u.o.dst ≠ some t := fun t e ht =>
    ⟨takeT_get _ _ _ _ (fun t e h => by simp [Tr.get_nil] at h) ht, fun i u hi hb hd => (hp.sep i u hi hb).1 t hd (hdm t (by rw [ht]; simp))⟩
  have ht2 : ∀ (i : Nat) u, rs[i]? = some u → p.pm.testBit i = false → ∀ d, o.dst = some d → u.T.get d = none := fun i u hi hb d hd => Classical.byContradiction fun hc =>
    (hp.sep i u hi hb).2 d hd ((hrs u (List.mem_of_getElem? hi)).2.1 d hc)
  generalize takeT T p.look .nil = TT at h htt hdm
  have hskip0 : ∀ {i : Nat} {u : Rec}, rs[i]? = some u → clE u.o.op = 0 ∨ clE u.o.op = 1 → ∀ b, Un u b := fun {i u} hi hc b => by
    obtain ⟨h1, h2⟩ := (hrs u (List.mem_of_getElem? hi)).2.2.c1 hc
    exact ⟨by omega, by rw [h1]⟩
  have hg0 : ∀ {i : Nat} {u : Rec}, rs[i]? = some u → clE u.o.op = 0 → ∀ b, u.g.get b = none := fun {i u} hi hc b => by
    rw [(hrs u (List.mem_of_getElem? hi)).2.2.c0 hc]; rfl
  have hus : ∀ (i : Nat) u, rs[i]? = some u → p.pm.testBit i = false → Skip (clE o.op) (clE u.o.op) ∨ u ∈ recsAt rs p.ls := fun i u hi hb => by
    rcases Classical.em (Skip (clE o.op) (clE u.o.op)) with h1 | h1
    · exact .inl h1
    · exact .inr (mem_recsAt _ _ _ (hp.ls i u hi hb h1) hi)
  have hsu : ∀ u ∈ recsAt rs p.ls, S1 u := fun u hu => (hrs u (recsAt_mem hu)).1
  generalize hUS : recsAt rs p.ls = us at h hus hsu
  have hcl := hp.cl
  split at h
  · -- class 0
    rename_i hc
    split at h
    · rename_i v H' nx' hr
      obtain ⟨hnx, h⟩ := grd_some h
      obtain rfl := Nat.eq_of_beq_eq_true hnx
      obtain rfl := Option.some.inj h
      have hsd := op1_Sd (P := P) hr
      refine ⟨rfl, rfl, rfl, rfl, edgesB_ok hp.ed, hbits, hsd, fun b x hb => by simp [Tr.get_nil] at hb, fun b hb => ?_, fun b _ _ => .inl rfl, htt, fun i u hi hbt b hb => by simp [Tr.get_nil] at hb, fun i u hi hbt b hb => .inr rfl, ht2, fun l hl b hb => ⟨by simp [Tr.get_nil], fun _ => rfl⟩, hdm, ⟨fun _ => rfl, fun _ => ⟨rfl, rfl⟩⟩⟩
      rcases hb with hb | hb
      · simp [Tr.get_nil] at hb
      · simp only [rzE] at hb; omega
    · cases h
  · -- class 1
    rename_i hc
    have hc1 : clE o.op = 1 := by rw [← hcl]; exact hc
    generalize hmts : ((o.op.operands.toList.filterMap fun x => nameE (opE TT x)).filter fun b => (H.get b).isSome && Nat.blt b LIM) = mts at h
    have hm : ∀ b ∈ mts, (H.get b).isSome = true ∧ b < LIM := fun b hb => by
      rw [← hmts, List.mem_filter, Bool.and_eq_true] at hb
      exact ⟨hb.2.1, Nat.le_of_ble_eq_true hb.2.2⟩
    obtain ⟨hun, h⟩ := grd_some h
    split at h
    · rename_i v H' nx' hr
      obtain ⟨hnx, h⟩ := grd_some h
      obtain rfl := Nat.eq_of_beq_eq_true hnx
      obtain rfl := Option.some.inj h
      have hsd := op1_Sd (P := P) hr
      have hg : ∀ b, (takeH H mts .nil).get b = if b ∈ mts then H.get b else none := fun b => by rw [takeH_get _ _ _ fun x hx => (hm x hx).2]; simp [Tr.get_nil]
      have hgm : ∀ b, (takeH H mts .nil).get b ≠ none → b ∈ mts := fun b hb => by
        rw [hg] at hb
        split at hb
        · assumption
        · exact absurd rfl hb
      have hH' : H' = takeH H mts .nil := op1_load hr hc1
      refine ⟨rfl, rfl, rfl, rfl, edgesB_ok hp.ed, hbits, hsd, fun b x hb => ?_, fun b hb => ?_, fun b _ _ => .inl rfl, htt, fun i u hi hbt b hb => ?_, fun i u hi hbt b hb => .inr rfl, ht2, fun l hl b hb => ?_, hdm, ⟨fun h0 => ?_, fun _ => ⟨rfl, rfl⟩⟩⟩
      · simp only at hb ⊢
        rw [hg] at hb
        split at hb
        · exact hb
        · cases hb
      · rcases hb with hb | hb
        · simp only [rzE] at hb ⊢
          rw [hH', hg, if_pos (hgm b hb)]
        · simp only [rzE] at hb; omega
      · rcases hus i u hi hbt with hs | hs
        · refine hskip0 hi ?_ b
          rcases hs with hs | hs | hs
          · rw [hc1] at hs; cases hs
          · exact .inl hs
          · exact .inr hs.2
        · exact un_ok (List.all_eq_true.1 (List.all_eq_true.1 hun u hs) b (hgm b hb))
      · simp only [Option.some.injEq] at hl
        subst hl
        exact ⟨by rw [hg, if_neg hb], fun _ => rfl⟩
      · simp only at h0; rw [hc1] at h0; cases h0
    · cases h
  · rename_i hn0 hn1
    have hc2 : clE o.op ≠ 0 ∧ clE o.op ≠ 1 := ⟨fun hx => hn0 (by rw [hcl]; exact hx), fun hx => hn1 (by rw [hcl]; exact hx)⟩
    have hcls : ∀ {R' : Rec}, R'.o = o → Cls R' := fun {R'} ho => ⟨fun hx => absurd (by rw [← ho]; exact hx) hc2.1, fun hx => by
      rw [ho] at hx
      rcases hx with hx | hx
      · exact absurd hx hc2.1
      · exact absurd hx hc2.2⟩
    have hsk : ∀ {i : Nat} {u : Rec}, rs[i]? = some u → Skip (clE o.op) (clE u.o.op) → clE u.o.op = 0 := fun {i u} _ hs => by
      rcases hs with hs | hs | hs
      · exact absurd hs hc2.1
      · exact hs
      · exact absurd hs.1 hc2.2
    split at h
    · generalize hmts : ((bif readE o.op then o.op.operands.toList.filterMap fun x => nameE (opE TT x) else []).filter fun b => (H.get b).isSome && Nat.blt b LIM) = mts at h
      have hm : ∀ b ∈ mts, (H.get b).isSome = true ∧ b < LIM := fun b hb => by
        rw [← hmts, List.mem_filter, Bool.and_eq_true] at hb
        exact ⟨hb.2.1, Nat.le_of_ble_eq_true hb.2.2⟩
      obtain ⟨hun, h⟩ := grd_some h
      split at h
      · rename_i v H' nx' hr
        obtain ⟨hchk, h⟩ := grd_some h
        obtain rfl := Option.some.inj h
        rw [Bool.and_eq_true] at hchk
        have hlim := Nat.le_of_ble_eq_true hchk.1
        have hsd := op1_Sd (P := P) hr
        have hle : nx ≤ nx' := hsd.1
        have hg : ∀ b, (takeH H mts .nil).get b = if b ∈ mts then H.get b else none := fun b => by rw [takeH_get _ _ _ fun x hx => (hm x hx).2]; simp [Tr.get_nil]
        have hrange : ∀ b, b ∈ List.range' nx (nx' - nx) ↔ nx ≤ b ∧ b < nx' := fun b => by
          rw [List.mem_range'_1]; omega
        have hH1 : ∀ b, (takeH H' (List.range' nx (nx' - nx)) (takeH H' mts H)).get b = if nx ≤ b ∧ b < nx' then H'.get b else if b ∈ mts then H'.get b else H.get b := fun b => by
          rw [takeH_get _ _ _ (fun x hx => by have := (hrange x).1 hx; omega), takeH_get _ _ _ fun x hx => (hm x hx).2]
          simp only [hrange]
        have hgm : ∀ b, (takeH H mts .nil).get b ≠ none → b ∈ mts := fun b hb => by
          rw [hg] at hb
          split at hb
          · assumption
          · exact absurd rfl hb
        have hgn : ∀ b, (takeH H mts .nil).get b = none → b ∉ mts := fun b hb hmem => by
          rw [hg, if_pos hmem] at hb
          have := (hm b hmem).1
          rw [hb] at this; cases this
        refine ⟨rfl, rfl, rfl, rfl, edgesB_ok hp.ed, hbits, hsd, fun b x hb => ?_, fun b hb => ?_, fun b hb hn => ?_, htt, fun i u hi hbt b hb => ?_, fun i u hi hbt b hb => ?_, ht2, fun l hl b hb => ?_, hdm, hcls rfl⟩
        · simp only at hb ⊢
          rw [hg] at hb
          split at hb
          · exact hb
          · cases hb
        · simp only [rzE] at hb ⊢
          rw [hH1]
          rcases hb with hb | hb
          · rw [if_pos (hgm b hb)]; simp
          · rw [if_pos hb]
        · simp only [rzE] at hb hn ⊢
          left
          rw [hH1, if_neg hn, if_neg (hgn b hb)]
        · rcases hus i u hi hbt with hs | hs
          · exact hskip0 hi (.inl (hsk hi hs)) b
          · exact un_ok (List.all_eq_true.1 (List.all_eq_true.1 hun u hs) b (hgm b hb))
        · rcases hus i u hi hbt with hs | hs
          · exact absurd (hg0 hi (hsk hi hs) b) hb
          · have h1 := List.all_eq_true.1 hchk.2 u hs
            have hs1 := hsu u hs
            simp only [rzE]
            cases hmt : u.mt with
            | some l =>
              rw [hmt] at h1
              simp only [Option.getD_some] at h1
              right
              by_cases hbl : b ∈ l
              · exact eoB_ok (List.all_eq_true.1 h1 b hbl)
              · exact absurd (hs1 l hmt b hbl).1 hb
            | none =>
              rw [hmt] at h1
              simp only [Option.getD_none] at h1
              by_cases hnew : nx ≤ b ∧ b < nx'
              · exact .inl hnew
              · right
                by_cases hbm : b ∈ mts
                · exact eoB_ok (List.all_eq_true.1 h1 b hbm)
                · rw [hH1, if_neg hnew, if_neg hbm]
        · simp only [Option.some.injEq] at hl
          subst hl
          simp only [rzE]
          refine ⟨by rw [hg, if_neg hb], fun hn => ?_⟩
          rw [hH1, if_neg hn, if_neg hb]
      · cases h
    · obtain ⟨hchk, h⟩ := grd_some h
      rw [Bool.and_eq_true] at hchk
      obtain ⟨hsome, hL⟩ := hchk
      generalize hLL : (us.flatMap fun u => List.range' u.lo (u.r.nx - u.lo) ++ (u.mt.getD []).filter fun b => !u.un b) = L at h hL
      have hl : ∀ b ∈ L, b < nx ∧ b < LIM := fun b hb => by
        have := List.all_eq_true.1 hL b hb
        rw [Bool.and_eq_true] at this
        exact ⟨Nat.le_of_ble_eq_true this.1, Nat.le_of_ble_eq_true this.2⟩
      split at h
      · rename_i r hr
        obtain ⟨hchk, h⟩ := grd_some h
        obtain rfl := Option.some.inj h
        have hsd := ih _ _ _ _ hr
        have hg : ∀ b, (cutH L H).get b = if b ∈ L then none else H.get b := fun b => cutH_get _ _ _ fun x hx => (hl x hx).2
        have hH1 : ∀ b, (takeH H L r.H).get b = if b ∈ L then H.get b else r.H.get b := fun b => takeH_get _ _ _ fun x hx => (hl x hx).2
        have hgL : ∀ b, (cutH L H).get b ≠ none → b ∉ L := fun b hb hmem => by
          rw [hg, if_pos hmem] at hb; exact hb rfl
        have hu : ∀ u ∈ us, ∃ l, u.mt = some l := fun u hs => Option.isSome_iff_exists.1 (List.all_eq_true.1 hsome u hs)
        refine ⟨rfl, rfl, rfl, rfl, edgesB_ok hp.ed, hbits, hsd, fun b x hb => ?_, fun b hb => ?_, fun b hb hn => ?_, htt, fun i u hi hbt b hb => ?_, fun i u hi hbt b hb => ?_, ht2, fun l hl b hb => ?_, hdm, hcls rfl⟩
        · simp only at hb ⊢
          rw [hg] at hb
          split at hb
          · cases hb
          · exact hb
        · simp only at hb ⊢
          rw [hH1, if_neg]
          rcases hb with hb | hb
          · exact hgL b hb
          · intro hmem; have := hl b hmem; omega
        · simp only at hb hn ⊢
          rw [hH1]
          by_cases hmem : b ∈ L
          · rw [if_pos hmem]; exact .inl rfl
          · rw [if_neg hmem]
            rw [hg, if_neg hmem] at hb
            exact .inr ⟨hb, rfl⟩
        · rcases hus i u hi hbt with hs | hs
          · exact hskip0 hi (.inl (hsk hi hs)) b
          · obtain ⟨l, hmt⟩ := hu u hs
            have hs1 := hsu u hs
            have hnot : b ∉ List.range' u.lo (u.r.nx - u.lo) ∧ b ∉ (l.filter fun b => !u.un b) := by
              have := hgL b hb
              rw [← hLL, List.mem_flatMap] at this
              refine ⟨fun hx => this ⟨u, hs, ?_⟩, fun hx => this ⟨u, hs, ?_⟩⟩
              · simp [hx]
              · rw [hmt]; simp only [Option.getD_some, List.mem_append]; exact .inr hx
            rw [List.mem_range'_1, List.mem_filter] at hnot
            have hr1 : b < u.lo ∨ u.r.nx ≤ b := by omega
            by_cases hbl : b ∈ l
            · have : u.un b = true := by
                cases hx : u.un b with
                | true => rfl
                | false => exact absurd ⟨hbl, by simp [hx]⟩ hnot.2
              exact un_ok this
            · exact ⟨hr1, ((hs1 l hmt b hbl).2 (by omega)).symm⟩
        · rcases hus i u hi hbt with hs | hs
          · exact absurd (hg0 hi (hsk hi hs) b) hb
          · obtain ⟨l, hmt⟩ := hu u hs
            have hs1 := hsu u hs
            have h1 := List.all_eq_true.1 hchk u hs
            rw [hmt] at h1
            simp only [Option.getD_some] at h1
            simp only
            right
            by_cases hbl : b ∈ l
            · exact eoB_ok (List.all_eq_true.1 h1 b hbl)
            · exact absurd (hs1 l hmt b hbl).1 hb
        · cases hl
      · cases h
end
end Go.Proofs.YtaopcacmfhdfkaaGreatDoor.Ev

namespace Go.Proofs.YtaopcacmfhdfkaaGreatDoor.Ev
open Go Go.RowKit Go.Proofs.YtaopcacmfhdfkaaGreatDoor.Vc
set_option linter.unusedSimpArgs false
set_option linter.unusedVariables false

section
variable {P : Program} [Lay P]

inductive Built (P : Program) [Lay P] (n : Nat) (all : Array Oper) (T0 : Tr EV) (Hs : EH) (nx0 : Nat) : List Rec → Tr EV → EH → Nat → Prop
  | nil : Built P n all T0 Hs nx0 [] T0 Hs nx0
  | snoc {rs : List Rec} {T : Tr EV} {H : EH} {nx : Nat} {R : Rec} : Built P n all T0 Hs nx0 rs T H nx → RecOk P n all rs T H nx R → Built P n all T0 Hs nx0 (rs ++ [R]) (putE T R.o.dst R.r.v) R.H1 R.r.nx

theorem Built.s1 {n : Nat} {all : Array Oper} {T0 : Tr EV} {Hs : EH} {nx0 : Nat} {rs : List Rec} {T : Tr EV} {H : EH} {nx : Nat} (h : Built P n all T0 Hs nx0 rs T H nx) : ∀ u ∈ rs, S1 u ∧ (∀ t, u.T.get t ≠ none → t ∈ lookE all u.o) ∧ Cls u := by
  induction h with
  | nil => simp
  | snoc _ hr ih =>
    intro u hu
    rcases List.mem_append.1 hu with hu | hu
    · exact ih u hu
    · simp at hu; subst hu; exact ⟨hr.s1, hr.dm, hr.cls⟩

theorem app_cases {α : Type} {rs : List α} {R : α} {i : Nat} {S : α} (h : (rs ++ [R])[i]? = some S) : (i < rs.length ∧ rs[i]? = some S) ∨ (i = rs.length ∧ S = R) := by
  rcases Nat.lt_or_ge i rs.length with hi | hi
  · rw [List.getElem?_append_left hi] at h; exact .inl ⟨hi, h⟩
  · rw [List.getElem?_append_right hi] at h
    have : i - rs.length = 0 := by
      rcases Nat.eq_zero_or_pos (i - rs.length) with h0 | h0
      · exact h0
      · rw [List.getElem?_eq_none (by simp; omega)] at h; cases h
    rw [this] at h
    simp at h
    exact .inr ⟨by omega, h.symm⟩
theorem app_left {α : Type} {rs : List α} {R : α} {i : Nat} {S : α} (h : rs[i]? = some S) : (rs ++ [R])[i]? = some S := by
  rw [List.getElem?_append_left (List.getElem?_eq_some_iff.1 h).1]; exact h
theorem app_right {α : Type} {rs : List α} {R : α} : (rs ++ [R])[rs.length]? = some R := by simp

/-! Plans. -/
structure PlF (all : Array Oper) (os : List Oper) (ps : List Pl) (o : Oper) (p : Pl) : Prop where
  pm : p.pm = pmE (ps.map Pl.pm) o.after.toList
  look : p.look = lookE all o
  cl : p.cl = clE o.op
  ls : p.ls = isLoose ps p.pm p.cl 0 ps
  ed : edgesB ps.length o.after.toList = true
  sep : sepB (os.map (·.dst)) p.pm o.dst p.look 0 ps = true
inductive PlB (all : Array Oper) : List Oper → List Pl → Prop
  | nil : PlB all [] []
  | snoc {os : List Oper} {ps : List Pl} {o : Oper} {p : Pl} : PlB all os ps → PlF all os ps o p → PlB all (os ++ [o]) (ps ++ [p])
theorem plE_ok {all : Array Oper} : ∀ (os os0 : List Oper) (ds : List (Option Nat)) (ps0 ps : List Pl), ds = os0.map (·.dst) → PlB all os0 ps0 → plE all os ds ps0 = some ps → PlB all (os0 ++ os) ps ∧ ∃ l, ps = ps0 ++ l ∧ l.length = os.length
  | [], os0, ds, ps0, ps, _, hb, h => by
    simp only [plE, Option.some.injEq] at h
    subst h
    exact ⟨by simpa using hb, [], by simp, rfl⟩
  | o :: os, os0, ds, ps0, ps, hds, hb, h => by
    simp only [plE] at h
    generalize hc : (edgesB ps0.length o.after.toList && sepB ds (pmE (ps0.map Pl.pm) o.after.toList) o.dst (lookE all o) 0 ps0 && (lookE all o).all fun t => Nat.blt t LIM) = c at h
    cases c with
    | false => cases h
    | true =>
      simp only [Bool.and_eq_true] at hc
      simp only [cond_true] at h
      obtain ⟨h1, l, h2, h3⟩ := plE_ok os (os0 ++ [o]) _ _ ps (by rw [hds]; simp) (hb.snoc (p := ⟨pmE (ps0.map Pl.pm) o.after.toList, lookE all o, clE o.op, isLoose ps0 (pmE (ps0.map Pl.pm) o.after.toList) (clE o.op) 0 ps0⟩) ⟨rfl, rfl, rfl, rfl, hc.1.1, by rw [← hds]; exact hc.1.2⟩) h
      refine ⟨by simpa using h1, ⟨pmE (ps0.map Pl.pm) o.after.toList, lookE all o, clE o.op, isLoose ps0 (pmE (ps0.map Pl.pm) o.after.toList) (clE o.op) 0 ps0⟩ :: l, by rw [h2]; simp, by simp [h3]⟩
theorem PlB.len {all : Array Oper} {os : List Oper} {ps : List Pl} (h : PlB all os ps) : ps.length = os.length := by
  induction h with
  | nil => rfl
  | snoc _ _ ih => simp [ih]
theorem PlB.get {all : Array Oper} {os : List Oper} {ps : List Pl} (h : PlB all os ps) : ∀ (j : Nat) o p, os[j]? = some o → ps[j]? = some p → PlF all (os.take j) (ps.take j) o p := by
  induction h with
  | nil => intro j o p ho; simp at ho
  | @snoc os ps o p hb hf ih =>
    intro j o' p' ho hp
    have hl := hb.len
    rcases app_cases ho with ⟨h1, h2⟩ | ⟨h1, rfl⟩
    · rcases app_cases hp with ⟨h3, h4⟩ | ⟨h3, rfl⟩
      · have := ih j o' p' h2 h4
        rw [List.take_append_of_le_length (by omega), List.take_append_of_le_length (by omega)]
        exact this
      · omega
    · rcases app_cases hp with ⟨h3, h4⟩ | ⟨h3, rfl⟩
      · omega
      · rw [List.take_append_of_le_length (by omega), List.take_of_length_le (by omega), List.take_append_of_le_length (by omega), List.take_of_length_le (by omega)]
        exact hf
theorem isLoose_mem {qs : List Pl} {pm cl : Nat} : ∀ {ps : List Pl} {i j : Nat} {p : Pl}, ps[j]? = some p → pm.testBit (i + j) = false → cl ≠ 0 → p.cl ≠ 0 → ¬ (cl = 1 ∧ p.cl = 1) → i + j ∈ isLoose qs pm cl i ps
  | [], i, j, p, h, _, _, _, _ => by simp at h
  | q :: ps, i, 0, p, h, hb, h1, h2, h3 => by
    simp at h; subst h
    simp only [Nat.add_zero] at hb ⊢
    simp only [isLoose, hb, Bool.false_or, beq_def]
    have : (decide (cl = 0) || decide (q.cl = 0) || (decide (cl = 1) && decide (q.cl = 1))) = false := by
      simp only [Bool.or_eq_false_iff, decide_eq_false_iff_not, Bool.and_eq_false_iff]
      exact ⟨⟨h1, h2⟩, by
        rcases Classical.em (cl = 1) with h4 | h4
        · exact .inr fun h5 => h3 ⟨h4, h5⟩
        · exact .inl h4⟩
    rw [this]; simp
  | q :: ps, i, j + 1, p, h, hb, h1, h2, h3 => by
    have := isLoose_mem (qs := qs) (ps := ps) (i := i + 1) (j := j) (p := p) (pm := pm) (cl := cl) (by simpa using h) (by rw [← hb]; congr 1; omega) h1 h2 h3
    rw [show i + 1 + j = i + (j + 1) by omega] at this
    simp only [isLoose]
    generalize (pm.testBit i || Nat.beq cl 0 || Nat.beq q.cl 0 || (Nat.beq cl 1 && Nat.beq q.cl 1)) = c
    cases c <;> simp [this]
theorem sepB_ok {ds : List (Option Nat)} {pm : Nat} {dst : Option Nat} {look : List Nat} : ∀ {ps : List Pl} {i : Nat}, sepB ds pm dst look i ps = true → ∀ (j : Nat) p, ps[j]? = some p → pm.testBit (i + j) = false → (∀ d, ds.getD (i + j) none = some d → d ∉ look) ∧ (∀ d, dst = some d → d ∉ p.look)
  | [], i, _, j, p, hp, _ => by simp at hp
  | q :: ps, i, h, 0, p, hp, hb => by
    simp at hp; subst hp
    simp only [Nat.add_zero] at hb ⊢
    simp only [sepB, hb, Bool.false_or, Bool.and_eq_true] at h
    refine ⟨fun d hd hm => ?_, fun d hd hm => ?_⟩
    · have := h.1.1
      rw [hd] at this
      simp only [Bool.not_eq_true'] at this
      rw [memN_iff.2 hm] at this; cases this
    · have := h.1.2
      rw [hd] at this
      simp only [Bool.not_eq_true'] at this
      rw [memN_iff.2 hm] at this; cases this
  | q :: ps, i, h, j + 1, p, hp, hb => by
    simp only [sepB, Bool.and_eq_true] at h
    have := sepB_ok (ps := ps) (i := i + 1) h.2 j p (by simpa using hp) (by rw [← hb]; congr 1; omega)
    rw [show i + 1 + j = i + (j + 1) by omega] at this
    exact this

/-- A plan, beside records. -/
theorem plan_ok {all : Array Oper} {os : List Oper} {ps : List Pl} (hB : PlB all os ps) {rs : List Rec} {o : Oper} {p : Pl} (hro : rs.map Rec.o = os.take rs.length) (hrp : rs.map Rec.pm = (ps.take rs.length).map Pl.pm) (ho : os[rs.length]? = some o) (hp : ps[rs.length]? = some p) : PlanOk all rs o p := by
  have hF := hB.get rs.length o p ho hp
  have hlen := hB.len
  have hlt : rs.length < os.length := (List.getElem?_eq_some_iff.1 ho).1
  have hpl : (ps.take rs.length).length = rs.length := by rw [List.length_take]; omega
  have hat : ∀ (i : Nat) u, rs[i]? = some u → ∃ q, (ps.take rs.length)[i]? = some q ∧ q.look = lookE all u.o ∧ q.cl = clE u.o.op ∧ (os.take rs.length)[i]? = some u.o := fun i u hu => by
    have hi : i < rs.length := (List.getElem?_eq_some_iff.1 hu).1
    have h1 := congrArg (fun l => l[i]?) hro
    simp only [List.getElem?_map, hu, Option.map_some] at h1
    rw [List.getElem?_take_of_lt hi] at h1
    have hq : ps[i]? = some ps[i] := List.getElem?_eq_getElem (by omega)
    have h2 := hB.get i u.o ps[i] h1.symm hq
    exact ⟨ps[i], by rw [List.getElem?_take_of_lt hi]; exact hq, h2.look, h2.cl, by rw [List.getElem?_take_of_lt hi]; exact h1.symm⟩
  refine ⟨by rw [hF.pm, hrp], hF.look, hF.cl, fun i u hu hb hs => ?_, by have := hF.ed; rwa [hpl] at this, fun i u hu hb => ?_⟩
  · obtain ⟨q, h1, _, h3, _⟩ := hat i u hu
    rw [hF.ls]
    have := isLoose_mem (qs := ps.take rs.length) (i := 0) (j := i) (pm := p.pm) (cl := p.cl) h1 (by rw [Nat.zero_add]; exact hb) (fun hx => hs (.inl (by rw [← hF.cl]; exact hx))) (fun hx => hs (.inr (.inl (by rw [← h3]; exact hx)))) (fun hx => hs (.inr (.inr ⟨by rw [← hF.cl]; exact hx.1, by rw [← h3]; exact hx.2⟩)))
    rwa [Nat.zero_add] at this
  · obtain ⟨q, h1, h2, _, h4⟩ := hat i u hu
    have := sepB_ok hF.sep i q h1 (by rw [Nat.zero_add]; exact hb)
    rw [Nat.zero_add, hF.look] at this
    refine ⟨fun d hd => this.1 d ?_, fun d hd => by rw [← h2]; exact this.2 d hd⟩
    rw [List.getD_eq_getElem?_getD, List.getElem?_map, h4]
    simpa using hd

theorem drwE_built {evf : Tk → EH → Nat → Option Rz} (ih : ∀ (tk : Tk) (H : EH) (nx : Nat) (r : Rz), evf tk H nx = some r → Sd P H nx r tk) {n : Nat} {all : Array Oper} {T0 : Tr EV} {Hs : EH} {nx0 : Nat} {OS : List Oper} {PS : List Pl} (hB : PlB all OS PS) : ∀ (os : List Oper) (ps : List Pl) (rs : List Rec) (T : Tr EV) (H : EH) (nx : Nat) (rs' : List Rec) (T' : Tr EV) (H' : EH) (nx' : Nat),
    os = OS.drop rs.length → ps = PS.drop rs.length → rs.map Rec.o = OS.take rs.length → rs.map Rec.pm = (PS.take rs.length).map Pl.pm → Built P n all T0 Hs nx0 rs T H nx → drwE P (Lay.cells P) evf n all os ps rs T H nx = some (rs', T', H', nx') → Built P n all T0 Hs nx0 rs' T' H' nx' ∧ rs'.map Rec.o = rs.map Rec.o ++ os
  | [], ps, rs, T, H, nx, rs', T', H', nx', _, _, _, _, hb, h => by
    simp only [drwE, Option.some.injEq, Prod.mk.injEq] at h
    obtain ⟨rfl, rfl, rfl, rfl⟩ := h
    exact ⟨hb, by simp⟩
  | o :: os, [], rs, T, H, nx, rs', T', H', nx', _, _, _, _, hb, h => by simp [drwE] at h
  | o :: os, p :: ps, rs, T, H, nx, rs', T', H', nx', hos, hps, hro, hrp, hb, h => by
    simp only [drwE] at h
    split at h
    · rename_i R hR
      have ho : OS[rs.length]? = some o := by
        have := congrArg (fun l => l[0]?) hos
        simpa using this.symm
      have hp : PS[rs.length]? = some p := by
        have := congrArg (fun l => l[0]?) hps
        simpa using this.symm
      obtain ⟨h1, h2, hok⟩ := stepE_ok ih hb.s1 (plan_ok hB hro hrp ho hp) hR
      rw [← h1] at h
      have hl : (rs ++ [R]).length = rs.length + 1 := by simp
      have hols : rs.length < OS.length := (List.getElem?_eq_some_iff.1 ho).1
      have hpls : rs.length < PS.length := (List.getElem?_eq_some_iff.1 hp).1
      obtain ⟨h3, h4⟩ := drwE_built ih hB os ps _ _ _ _ _ _ _ _ (by
          rw [hl]
          have := congrArg List.tail hos
          simpa using this) (by
          rw [hl]
          have := congrArg List.tail hps
          simpa using this) (by
          rw [hl, List.map_append, hro, List.take_succ_eq_append_getElem hols]
          have : OS[rs.length] = o := by rw [List.getElem?_eq_getElem hols] at ho; exact Option.some.inj ho
          simp [this, h1]) (by
          rw [hl, List.map_append, hrp, List.take_succ_eq_append_getElem hpls]
          have : PS[rs.length] = p := by rw [List.getElem?_eq_getElem hpls] at hp; exact Option.some.inj hp
          simp [this, h2]) (hb.snoc hok) h
      refine ⟨h3, ?_⟩
      rw [h4]; simp [h1]
    · cases h

/-- What is known of a region's records. -/
structure Facts (P : Program) [Lay P] (n : Nat) (all : Array Oper) (M0 : Nm) (T0 : Tr EV) (Hs : EH) (nx0 : Nat) (rs : List Rec) (T : Tr EV) (H : EH) (nx : Nat) : Prop where
  le0 : nx0 ≤ nx
  le : ∀ (i : Nat) R, rs[i]? = some R → nx0 ≤ R.lo ∧ R.lo ≤ R.r.nx ∧ R.r.nx ≤ nx
  ord : ∀ (i j : Nat) R S, i < j → rs[i]? = some R → rs[j]? = some S → R.r.nx ≤ S.lo
  chs : ∀ (k : Nat) R b, rs[k]? = some R → (∀ (j : Nat) S, j < k → rs[j]? = some S → Un S b) → Hs.get b = R.H0.get b
  chi : ∀ (i k : Nat) R R' b, i < k → rs[i]? = some R → rs[k]? = some R' → (∀ (j : Nat) S, i < j → j < k → rs[j]? = some S → Un S b) → R.H1.get b = R'.H0.get b
  chsf : ∀ b, (∀ (j : Nat) S, rs[j]? = some S → Un S b) → Hs.get b = H.get b
  chif : ∀ (i : Nat) R b, rs[i]? = some R → (∀ (j : Nat) S, i < j → rs[j]? = some S → Un S b) → R.H1.get b = H.get b
  edge : ∀ (k : Nat) R e, rs[k]? = some R → e ∈ R.o.after.toList → Region.binds .any e = true → e.on < k
  bits : ∀ (k : Nat) R i, rs[k]? = some R → R.pm.testBit i = true → ∃ e ∈ R.o.after.toList, Region.binds .any e = true ∧ (e.on = i ∨ ∃ S, rs[e.on]? = some S ∧ S.pm.testBit i = true)
  sd : ∀ (k : Nat) R, rs[k]? = some R → Sd P R.g R.lo R.r (.op n all R.o R.T)
  a : ∀ (k : Nat) R b o, rs[k]? = some R → R.g.get b = some o → R.H0.get b = some o
  b : ∀ (k : Nat) R b, rs[k]? = some R → (R.g.get b ≠ none ∨ R.lo ≤ b ∧ b < R.r.nx) → R.H1.get b = R.r.H.get b
  c : ∀ (k : Nat) R b, rs[k]? = some R → R.g.get b = none → ¬ (R.lo ≤ b ∧ b < R.r.nx) → R.H1.get b = R.H0.get b
  dom : ∀ (k : Nat) R b, rs[k]? = some R → R.H0.get b ≠ none → M0.d b ∨ nx0 ≤ b ∧ b < R.lo
  t : ∀ (k : Nat) R t e, rs[k]? = some R → R.T.get t = some e → (∃ i u, i < k ∧ rs[i]? = some u ∧ R.pm.testBit i = true ∧ u.o.dst = some t ∧ u.r.v = e) ∨ ((∀ (i : Nat) u, i < k → rs[i]? = some u → u.o.dst ≠ some t) ∧ T0.get t = some e)
  tf : ∀ t e, T.get t = some e → (∃ (i : Nat) (u : Rec), rs[i]? = some u ∧ u.o.dst = some t ∧ u.r.v = e) ∨ ((∀ (i : Nat) u, rs[i]? = some u → u.o.dst ≠ some t) ∧ T0.get t = some e)
  u1 : ∀ (i k : Nat) u R b, i < k → rs[i]? = some u → rs[k]? = some R → R.pm.testBit i = false → R.g.get b ≠ none → Un u b
  u2 : ∀ (i k : Nat) u R b, i < k → rs[i]? = some u → rs[k]? = some R → R.pm.testBit i = false → u.g.get b ≠ none → (R.lo ≤ b ∧ b < R.r.nx) ∨ R.H0.get b = R.H1.get b
  t2 : ∀ (i k : Nat) u R d, i < k → rs[i]? = some u → rs[k]? = some R → R.pm.testBit i = false → R.o.dst = some d → u.T.get d = none
  run : ∃ M a w, EA M H.get T.get n a w ∧ Gr M0 M nx0 nx

/-- One operation's effect, in the whole heap. -/
theorem op_merge {M : Nm} {h : Nat → Option EO} {τ : Nat → Option EV} {n : Nat} {all : Array Oper} {a : Act} {w : World} {R : Rec} (hs : Sd P R.g R.lo R.r (.op n all R.o R.T)) (hA : EA M h τ n a w) (hf : Fr P M R.lo R.r.nx) (hg : ∀ b o, R.g.get b = some o → h b = some o) (ht : ∀ t e, R.T.get t = some e → τ t = some e)
    (h' : Nat → Option EO) (hc : ∀ b, h' b = R.r.H.get b ∨ (R.g.get b = none ∧ h' b = h b)) (Q : Exit → Act → World → Prop) (K : Act → World → Prop)
    (hK : ∀ M' a' w', EA M' h' (putF τ R.o.dst R.r.v) n a' w' → Stp M h w M' h' w' → Gr M M' R.lo R.r.nx → (∀ b, R.g.get b = none → ¬ (R.lo ≤ b ∧ b < R.r.nx) → R.r.H.get b = none) → K a' w') :
    if Region.wanted R.o (yielded all a.tmps) = true then R.o.wp P a w K Q else K (a.put R.o.dst undef) w := by
  obtain ⟨_, hd, hs⟩ := hs
  refine hs M a w (hA.weak hg ht) hf Q K fun M' v w' h1 h2 h3 h4 => ?_
  obtain ⟨h5, h6⟩ := EI.merge hA.hp hg h2 h1 hc
  exact hK M' _ w' (hA.putF h5 h2.le hd h4) h6 h3 fun b hb hn => h2.none h3 hb hn

theorem Built.facts {n : Nat} {all : Array Oper} {M0 : Nm} {T0 : Tr EV} {Hs : EH} {nx0 : Nat} {a0 : Act} {w0 : World} (h0 : EA M0 Hs.get T0.get n a0 w0) {rs : List Rec} {T : Tr EV} {H : EH} {nx : Nat} (h : Built P n all T0 Hs nx0 rs T H nx) : ∀ nxf, nx ≤ nxf → Fr P M0 nx0 nxf → Facts P n all M0 T0 Hs nx0 rs T H nx := by
  induction h with
  | nil =>
    intro nxf _ _
    refine ⟨Nat.le_refl _, ?_, ?_, ?_, ?_, fun b _ => rfl, ?_, ?_, ?_, ?_, ?_, ?_, ?_, ?_, ?_, fun t e h => .inr ⟨by simp, h⟩, ?_, ?_, ?_, M0, a0, w0, h0, .refl _ _ _⟩ <;> simp
  | @snoc rs T H nx R hb hr ih =>
    intro nxf hle hfr
    have hsd := hr.sd
    have hlo := hr.lo
    have hH0 := hr.h0
    have hle1 : R.lo ≤ R.r.nx := hsd.1
    have F := ih nxf (by omega) hfr
    obtain ⟨M1, a1, w1, hA1, hG1⟩ := F.run
    have hfr1 : Fr P M1 R.lo R.r.nx := by rw [hlo]; exact (hfr.left hle).right hG1 F.le0
    -- the run in the text's order
    have hstep : ∃ M' a' w', EA M' R.H1.get (putE T R.o.dst R.r.v).get n a' w' ∧ Gr M0 M' nx0 R.r.nx ∧ ∀ b, R.g.get b = none → ¬ (R.lo ≤ b ∧ b < R.r.nx) → R.r.H.get b = none := by
      have hcc : ∀ b, (fun b => if R.g.get b = none ∧ ¬ (R.lo ≤ b ∧ b < R.r.nx) then H.get b else R.r.H.get b) b = R.r.H.get b ∨ (R.g.get b = none ∧ (fun b => if R.g.get b = none ∧ ¬ (R.lo ≤ b ∧ b < R.r.nx) then H.get b else R.r.H.get b) b = H.get b) := fun b => by
        by_cases hx : R.g.get b = none ∧ ¬ (R.lo ≤ b ∧ b < R.r.nx)
        · exact .inr ⟨hx.1, if_pos hx⟩
        · exact .inl (if_neg hx)
      have := op_merge (P := P) hsd hA1 hfr1 (fun b o hb => by rw [← hH0]; exact hr.a b o hb) (fun t e ht => (hr.t t e ht).1) _ hcc (fun _ _ _ => False)
        (fun a' w' => ∃ M', EA M' (fun b => if R.g.get b = none ∧ ¬ (R.lo ≤ b ∧ b < R.r.nx) then H.get b else R.r.H.get b) (putF T.get R.o.dst R.r.v) n a' w' ∧ Gr M1 M' R.lo R.r.nx ∧ ∀ b, R.g.get b = none → ¬ (R.lo ≤ b ∧ b < R.r.nx) → R.r.H.get b = none)
        (fun M' a' w' k1 _ k3 k4 => ⟨M', k1, k3, k4⟩)
      have hex : ∃ a' w', ∃ M', EA M' (fun b => if R.g.get b = none ∧ ¬ (R.lo ≤ b ∧ b < R.r.nx) then H.get b else R.r.H.get b) (putF T.get R.o.dst R.r.v) n a' w' ∧ Gr M1 M' R.lo R.r.nx ∧ ∀ b, R.g.get b = none → ¬ (R.lo ≤ b ∧ b < R.r.nx) → R.r.H.get b = none := by
        split at this
        · exact wp_exists this
        · exact ⟨_, _, this⟩
      obtain ⟨a', w', M', k1, k3, k4⟩ := hex
      have hdn : ∀ t, R.o.dst = some t → t < n := hsd.2.1
      refine ⟨M', a', w', k1.weak (fun b o hb => ?_) (fun t e ht => ?_), hG1.trans (by rw [hlo] at k3; exact k3) F.le0 (by omega), k4⟩
      · by_cases hx : R.g.get b = none ∧ ¬ (R.lo ≤ b ∧ b < R.r.nx)
        · rw [if_pos hx]
          rcases hr.c b hx.1 hx.2 with h1 | ⟨_, h1⟩
          · rw [← hH0, ← h1]; exact hb
          · rw [h1, k4 b hx.1 hx.2] at hb; cases hb
        · rw [if_neg hx, ← hr.b b (by
            rcases Classical.em (R.g.get b = none) with h1 | h1
            · exact .inr (Classical.byContradiction fun h2 => hx ⟨h1, h2⟩)
            · exact .inl h1)]
          exact hb
      · rw [putE_get hdn h0.lim] at ht; exact ht
    obtain ⟨M2, a2, w2, hA2, hG2, hN⟩ := hstep
    have hcR : ∀ b, R.g.get b = none → ¬ (R.lo ≤ b ∧ b < R.r.nx) → R.H1.get b = R.H0.get b := fun b h1 h2 => by
      rcases hr.c b h1 h2 with h3 | ⟨h3, h4⟩
      · exact h3
      · rw [h3, h4, hN b h1 h2]
    refine ⟨by have := F.le0; omega, ?_, ?_, ?_, ?_, ?_, ?_, ?_, ?_, ?_, ?_, ?_, ?_, ?_, ?_, ?_, ?_, ?_, ?_, M2, a2, w2, hA2, hG2⟩
    · intro i S hS
      rcases app_cases hS with ⟨_, hS⟩ | ⟨_, rfl⟩
      · have := F.le i S hS; omega
      · have := F.le0; omega
    · intro i j S S' hij hS hS'
      rcases app_cases hS' with ⟨hj, hS'⟩ | ⟨hj, rfl⟩ <;> rcases app_cases hS with ⟨hi, hS⟩ | ⟨hi, rfl⟩
      · exact F.ord i j S S' hij hS hS'
      · omega
      · have := F.le i S hS; omega
      · omega
    · intro k S b hS hU
      rcases app_cases hS with ⟨_, hS⟩ | ⟨hk, rfl⟩
      · exact F.chs k S b hS fun j S' hj hS' => hU j S' hj (app_left hS')
      · rw [hH0]; exact F.chsf b fun j S' hS' => hU j S' (by have := (List.getElem?_eq_some_iff.1 hS').1; omega) (app_left hS')
    · intro i k S S' b hik hS hS' hU
      rcases app_cases hS' with ⟨hk, hS'⟩ | ⟨hk, rfl⟩ <;> rcases app_cases hS with ⟨hi, hS⟩ | ⟨hi, rfl⟩
      · exact F.chi i k S S' b hik hS hS' fun j X h1 h2 hX => hU j X h1 h2 (app_left hX)
      · omega
      · rw [hH0]; exact F.chif i S b hS fun j X h1 hX => hU j X h1 (by have := (List.getElem?_eq_some_iff.1 hX).1; omega) (app_left hX)
      · omega
    · intro b hU
      rw [F.chsf b fun j S hS => hU j S (app_left hS), ← hH0]
      exact (hU rs.length R app_right).2
    · intro i S b hS hU
      rcases app_cases hS with ⟨hi, hS⟩ | ⟨hi, rfl⟩
      · rw [F.chif i S b hS fun j X h1 hX => hU j X h1 (app_left hX), ← hH0]
        exact (hU rs.length R hi app_right).2
      · rfl
    · intro k S e hS he hb
      rcases app_cases hS with ⟨_, hS⟩ | ⟨hk, rfl⟩
      · exact F.edge k S e hS he hb
      · rw [hk]; exact hr.edge e he hb
    · intro k S i hS hi
      rcases app_cases hS with ⟨_, hS⟩ | ⟨hk, rfl⟩
      · obtain ⟨e, h1, h2, h3⟩ := F.bits k S i hS hi
        exact ⟨e, h1, h2, h3.imp id fun ⟨X, h4, h5⟩ => ⟨X, app_left h4, h5⟩⟩
      · obtain ⟨e, h1, h2, h3⟩ := hr.bits i hi
        refine ⟨e, h1, h2, h3.imp id fun h4 => ?_⟩
        have hlt := hr.edge e h1 h2
        refine ⟨rs[e.on], app_left (List.getElem?_eq_getElem hlt), ?_⟩
        rw [List.getD_eq_getElem?_getD, List.getElem?_map, List.getElem?_eq_getElem hlt] at h4
        exact h4
    · intro k S hS
      rcases app_cases hS with ⟨_, hS⟩ | ⟨hk, rfl⟩
      · exact F.sd k S hS
      · exact hsd
    · intro k S b o hS hb
      rcases app_cases hS with ⟨_, hS⟩ | ⟨hk, rfl⟩
      · exact F.a k S b o hS hb
      · exact hr.a b o hb
    · intro k S b hS hb
      rcases app_cases hS with ⟨_, hS⟩ | ⟨hk, rfl⟩
      · exact F.b k S b hS hb
      · exact hr.b b hb
    · intro k S b hS hb hn
      rcases app_cases hS with ⟨_, hS⟩ | ⟨hk, rfl⟩
      · exact F.c k S b hS hb hn
      · exact hcR b hb hn
    · intro k S b hS hb
      rcases app_cases hS with ⟨_, hS⟩ | ⟨hk, rfl⟩
      · exact F.dom k S b hS hb
      · rw [hH0] at hb
        have := hG1.2 b (hA1.hp.lt hb).1
        rw [hlo]; exact this
    · intro k S t e hS ht
      rcases app_cases hS with ⟨hk, hS⟩ | ⟨hk, rfl⟩
      · rcases F.t k S t e hS ht with ⟨i, u, h1, h2, h3⟩ | ⟨h1, h2⟩
        · exact .inl ⟨i, u, h1, app_left h2, h3⟩
        · refine .inr ⟨fun i u hi hu => ?_, h2⟩
          rcases app_cases hu with ⟨_, hu⟩ | ⟨hi', rfl⟩
          · exact h1 i u hi hu
          · omega
      · obtain ⟨h1, h2⟩ := hr.t t e ht
        rcases F.tf t e h1 with ⟨i, u, h3, h4, h5⟩ | ⟨h3, h4⟩
        · refine .inl ⟨i, u, by have := (List.getElem?_eq_some_iff.1 h3).1; omega, app_left h3, ?_, h4, h5⟩
          cases hb : S.pm.testBit i with
          | true => rfl
          | false => exact absurd h4 (h2 i u h3 hb)
        · refine .inr ⟨fun i u hi hu => ?_, h4⟩
          rcases app_cases hu with ⟨_, hu⟩ | ⟨hi', rfl⟩
          · exact h3 i u hu
          · omega
    · intro t e ht
      rw [putE_get hsd.2.1 h0.lim] at ht
      simp only [putF] at ht
      split at ht
      · rename_i hdt
        exact .inl ⟨rs.length, R, app_right, hdt, Option.some.inj ht⟩
      · rename_i hdt
        rcases F.tf t e ht with ⟨i, u, h3, h4, h5⟩ | ⟨h3, h4⟩
        · exact .inl ⟨i, u, app_left h3, h4, h5⟩
        · refine .inr ⟨fun i u hu => ?_, h4⟩
          rcases app_cases hu with ⟨_, hu⟩ | ⟨hi', rfl⟩
          · exact h3 i u hu
          · exact hdt
    · intro i k u S b hik hu hS hbt hb
      rcases app_cases hS with ⟨hk, hS⟩ | ⟨hk, rfl⟩ <;> rcases app_cases hu with ⟨hi, hu⟩ | ⟨hi, rfl⟩
      · exact F.u1 i k u S b hik hu hS hbt hb
      · omega
      · exact hr.u1 i u hu hbt b hb
      · omega
    · intro i k u S b hik hu hS hbt hb
      rcases app_cases hS with ⟨hk, hS⟩ | ⟨hk, rfl⟩ <;> rcases app_cases hu with ⟨hi, hu⟩ | ⟨hi, rfl⟩
      · exact F.u2 i k u S b hik hu hS hbt hb
      · omega
      · exact hr.u2 i u hu hbt b hb
      · omega
    · intro i k u S d hik hu hS hbt hd'
      rcases app_cases hS with ⟨hk, hS⟩ | ⟨hk, rfl⟩ <;> rcases app_cases hu with ⟨hi, hu⟩ | ⟨hi, rfl⟩
      · exact F.t2 i k u S d hik hu hS hbt hd'
      · omega
      · exact hr.t2 i u hu hbt d hd'
      · omega
end
end Go.Proofs.YtaopcacmfhdfkaaGreatDoor.Ev

namespace Go.Proofs.YtaopcacmfhdfkaaGreatDoor.Ev
open Go Go.RowKit Go.Proofs.YtaopcacmfhdfkaaGreatDoor.Vc
set_option linter.unusedSimpArgs false
set_option linter.unusedVariables false

theorem mem_dsts {o : Oper} {d : Nat} : ∀ {os : List Oper}, o ∈ os → o.dst = some d → d ∈ dstsE os
  | [], h, _ => by simp at h
  | x :: os, h, hd => by
    simp only [dstsE]
    rcases List.mem_cons.1 h with rfl | h
    · rw [hd]; simp
    · have := mem_dsts h hd
      split <;> simp [this]
theorem dsts_mem {d : Nat} : ∀ {os : List Oper}, d ∈ dstsE os → ∃ o ∈ os, o.dst = some d
  | [], h => by simp [dstsE] at h
  | x :: os, h => by
    simp only [dstsE] at h
    split at h
    · rename_i d' hd'
      rcases List.mem_cons.1 h with rfl | h
      · exact ⟨x, by simp, hd'⟩
      · obtain ⟨o, h1, h2⟩ := dsts_mem h
        exact ⟨o, by simp [h1], h2⟩
    · obtain ⟨o, h1, h2⟩ := dsts_mem h
      exact ⟨o, by simp [h1], h2⟩
theorem nodupE_ok : ∀ {os : List Oper}, nodupE (dstsE os) = true → ∀ (i j : Nat) (o o' : Oper) (d : Nat), i < j → os[i]? = some o → os[j]? = some o' → o.dst = some d → o'.dst ≠ some d
  | [], _, i, j, o, o', d, _, h, _, _ => by simp at h
  | x :: os, hn, i, j, o, o', d, hij, h1, h2, h3 => by
    obtain ⟨j, rfl⟩ : ∃ k, j = k + 1 := ⟨j - 1, by omega⟩
    simp only [List.getElem?_cons_succ] at h2
    simp only [dstsE] at hn
    cases i with
    | zero =>
      simp at h1; subst h1
      rw [h3] at hn
      simp only [nodupE, Bool.and_eq_true, Bool.not_eq_true'] at hn
      intro h4
      have := memN_iff.2 (mem_dsts (List.mem_of_getElem? h2) h4)
      rw [this] at hn; cases hn.1
    | succ i =>
      simp only [List.getElem?_cons_succ] at h1
      refine nodupE_ok ?_ i j o o' d (by omega) h1 h2 h3
      split at hn
      · simp only [nodupE, Bool.and_eq_true] at hn; exact hn.2
      · exact hn

section
variable {P : Program} [Lay P] {ops : Array Oper} {n : Nat} {M0 : Nm} {T0 : Tr EV} {Hs : EH} {nx0 : Nat} {rs : List Rec} {T : Tr EV} {H : EH} {nx : Nat} {w0 : World} {L : Array Bool}

theorem all_doneE (he : ∀ (i : Nat) o e, ops[i]? = some o → e ∈ o.after.toList → Region.binds .any e = true → e.on < i) (hr : Region.ready .any ops L = []) (hL : L.size = ops.size) : ∀ k : Nat, k < ops.size → L.getD k false = true := by
  intro k
  induction k using Nat.strongRecOn with
  | _ k ih =>
    intro hk
    cases hb : L.getD k false with
    | true => rfl
    | false =>
      exfalso
      have hm : k ∈ Region.ready .any ops L := by
        simp only [Region.ready, List.mem_filter, List.mem_range, Bool.and_eq_true, Bool.not_eq_true']
        refine ⟨hk, ?_, ?_⟩
        · simp only [Array.getD_eq_getD_getElem?] at hb ⊢
          rw [Array.getElem?_eq_getElem (by omega)] at hb ⊢
          simpa using hb
        · rw [Array.getElem?_eq_getElem hk]
          simp only [Option.map_some, Option.getD_some, Array.all_eq_true_iff_forall_mem]
          intro e hee
          by_cases hbd : Region.binds .any e = true
          · have hlt := he k _ e (Array.getElem?_eq_getElem hk) (by simpa using hee) hbd
            simp [ih e.on hlt (by omega)]
          · simp [hbd]
      rw [hr] at hm
      cases hm

/-- Some are done. -/
structure Stand (M0 : Nm) (T0 : Tr EV) (Hs : EH) (rs : List Rec) (w0 : World) (n : Nat) (L : Array Bool) (M : Nm) (h : Nat → Option EO) (τ : Nat → Option EV) (a : Act) (w : World) : Prop where
  ea : EA M h τ n a w
  st : Stp M0 Hs.get w0 M h w
  d : ∀ b, M.d b → M0.d b ∨ ∃ (j : Nat) (R : Rec), L.getD j false = true ∧ rs[j]? = some R ∧ R.lo ≤ b ∧ b < R.r.nx
  i1 : ∀ b, (∀ (i : Nat) (R : Rec), L.getD i false = true → rs[i]? = some R → Un R b) → h b = Hs.get b
  i2 : ∀ (i : Nat) (R : Rec) b, L.getD i false = true → rs[i]? = some R → ¬ Un R b → (∀ (j : Nat) S, i < j → L.getD j false = true → rs[j]? = some S → Un S b) → h b = R.H1.get b
  j1 : ∀ (i : Nat) (R : Rec) t, L.getD i false = true → rs[i]? = some R → R.o.dst = some t → τ t = some R.r.v
  j2 : ∀ t, (∀ (i : Nat) (R : Rec), L.getD i false = true → rs[i]? = some R → R.o.dst ≠ some t) → τ t = T0.get t

/-- The last that is so, of those below a bound. -/
theorem last_or {p : Nat → Prop} : ∀ k : Nat, (∀ i, i < k → ¬ p i) ∨ ∃ i, i < k ∧ p i ∧ ∀ j, i < j → j < k → ¬ p j
  | 0 => .inl fun i hi => by omega
  | k + 1 => by
    rcases Classical.em (p k) with hk | hk
    · exact .inr ⟨k, by omega, hk, fun j h1 h2 => by omega⟩
    · rcases last_or (p := p) k with h | ⟨i, h1, h2, h3⟩
      · exact .inl fun i hi hp => by
          rcases Nat.lt_or_ge i k with h4 | h4
          · exact h i h4 hp
          · have : i = k := by omega
            subst this; exact hk hp
      · refine .inr ⟨i, by omega, h2, fun j h4 h5 hp => ?_⟩
        rcases Nat.lt_or_ge j k with h6 | h6
        · exact h3 j h4 h6 hp
        · have : j = k := by omega
          subst this; exact hk hp

theorem down_bits (F : Facts P n ops M0 T0 Hs nx0 rs T H nx) (hops : rs.map Rec.o = ops.toList) (hd : Down ops L) : ∀ (k i : Nat) (R : Rec), L.getD k false = true → rs[k]? = some R → R.pm.testBit i = true → L.getD i false = true := by
  intro k
  induction k using Nat.strongRecOn with
  | _ k ih =>
    intro i R hk hR hb
    have ho : ops[k]? = some R.o := by
      have := congrArg (fun l => l[k]?) hops
      simp only [List.getElem?_map, hR, Option.map_some] at this
      simpa using this.symm
    obtain ⟨e, h1, h2, h3⟩ := F.bits k R i hR hb
    have hon := hd k R.o e hk ho h1 h2
    rcases h3 with h3 | ⟨S, h3, h4⟩
    · rwa [← h3]
    · exact ih e.on (F.edge k R e hR h1 h2) i S hon h3 h4
theorem ready_bits (F : Facts P n ops M0 T0 Hs nx0 rs T H nx) (hops : rs.map Rec.o = ops.toList) (hd : Down ops L) {k i : Nat} {R : Rec} (hk : k ∈ Region.ready .any ops L) (hR : rs[k]? = some R) (hb : R.pm.testBit i = true) : L.getD i false = true := by
  have ho : ops[k]? = some R.o := by
    have := congrArg (fun l => l[k]?) hops
    simp only [List.getElem?_map, hR, Option.map_some] at this
    simpa using this.symm
  obtain ⟨e, h1, h2, h3⟩ := F.bits k R i hR hb
  have hon := (ready_mem hk).2.2 R.o e ho h1 h2
  rcases h3 with h3 | ⟨S, h3, h4⟩
  · rwa [← h3]
  · exact down_bits F hops hd e.on i S hon h3 h4

theorem draw_E (F : Facts P n ops M0 T0 Hs nx0 rs T H nx) (hops : rs.map Rec.o = ops.toList) (hnd : nodupE (dstsE ops.toList) = true) (hfr : Fr P M0 nx0 nx) {Q : Exit → Act → World → Prop}
    (hQ : ∀ M' a' w', EA M' H.get T.get n a' w' → Stp M0 Hs.get w0 M' H.get w' → Gr M0 M' nx0 nx → Q .normal a' w') :
    ∀ (fuel : Nat) (L : Array Bool) (a : Act) (w : World), L.size = ops.size → Down ops L → ops.size ≤ L.toList.count true + fuel → (∃ M h τ, Stand M0 T0 Hs rs w0 n L M h τ a w) → wpAny P .any ops Q fuel L a w := by
  have hlen : rs.length = ops.size := by
    have := congrArg List.length hops
    simpa using this
  have hop : ∀ (i : Nat) R, rs[i]? = some R → ops[i]? = some R.o := fun i R hR => by
    have := congrArg (fun l => l[i]?) hops
    simp only [List.getElem?_map, hR, Option.map_some] at this
    simpa using this.symm
  have hget : ∀ (i : Nat), i < ops.size → ∃ R, rs[i]? = some R := fun i hi => ⟨rs[i], List.getElem?_eq_getElem (by omega)⟩
  have hlt : ∀ (i : Nat) R, rs[i]? = some R → i < ops.size := fun i R hR => by have := (List.getElem?_eq_some_iff.1 hR).1; omega
  have hedge : ∀ (i : Nat) o e, ops[i]? = some o → e ∈ o.after.toList → Region.binds .any e = true → e.on < i := fun i o e ho he hb => by
    obtain ⟨R, hR⟩ := hget i (Array.getElem?_eq_some_iff.1 ho).1
    have := hop i R hR
    rw [ho] at this
    obtain rfl := Option.some.inj this
    exact F.edge i R e hR he hb
  have hdst : ∀ (i j : Nat) R S t, rs[i]? = some R → rs[j]? = some S → R.o.dst = some t → S.o.dst = some t → i = j := fun i j R S t hR hS h1 h2 => by
    have e1 := hop i R hR
    have e2 := hop j S hS
    rcases Nat.lt_trichotomy i j with h | h | h
    · exact absurd h2 (nodupE_ok hnd i j R.o S.o t h (by simpa using e1) (by simpa using e2) h1)
    · exact h
    · exact absurd h1 (nodupE_ok hnd j i S.o R.o t h (by simpa using e2) (by simpa using e1) h2)
  have fin : ∀ (L : Array Bool) (a : Act) (w : World), (∀ k : Nat, k < ops.size → L.getD k false = true) → (∃ M h τ, Stand M0 T0 Hs rs w0 n L M h τ a w) → Q .normal a w := by
    rintro L a w hall ⟨M, h, τ, S⟩
    have hh : h = H.get := by
      funext b
      rcases last_or (p := fun i => ∃ R, rs[i]? = some R ∧ ¬ Un R b) rs.length with h1 | ⟨i, h1, ⟨R, h2, h3⟩, h4⟩
      · have hu : ∀ (i : Nat) R, rs[i]? = some R → Un R b := fun i R hR => Classical.byContradiction fun hc => h1 i (by have := hlt i R hR; omega) ⟨R, hR, hc⟩
        rw [S.i1 b fun i R _ hR => hu i R hR, F.chsf b hu]
      · have hu : ∀ (j : Nat) X, i < j → rs[j]? = some X → Un X b := fun j X hj hX => Classical.byContradiction fun hc => h4 j hj (by have := hlt j X hX; omega) ⟨X, hX, hc⟩
        rw [S.i2 i R b (hall i (by omega)) h2 h3 fun j X hj _ hX => hu j X hj hX, F.chif i R b h2 hu]
    have ht : ∀ t e, T.get t = some e → τ t = some e := fun t e he => by
      rcases F.tf t e he with ⟨i, u, h1, h2, h3⟩ | ⟨h1, h2⟩
      · rw [S.j1 i u t (hall i (hlt i u h1)) h1 h2, h3]
      · rw [S.j2 t fun i R _ hR => h1 i R hR, h2]
    have hst := S.st
    have hea := S.ea
    rw [hh] at hst hea
    exact hQ M a w (hea.weak (fun _ _ hb => hb) ht) hst ⟨S.st.le.L, fun b hb => by
      rcases S.d b hb with h1 | ⟨j, R, _, h2, h3, h4⟩
      · exact .inl h1
      · have := F.le j R h2; exact .inr (by omega)⟩
  intro fuel
  induction fuel with
  | zero =>
    intro L a w hL hdn hc hS
    have hall := count_all (L := L) (by omega)
    rw [hL] at hall
    refine ⟨?_, fin L a w hall hS⟩
    simp only [Region.ready, List.filter_eq_nil_iff, List.mem_range, Bool.and_eq_true, Bool.not_eq_true', not_and]
    intro k hk hf
    have := hall k hk
    simp only [Array.getD_eq_getD_getElem?] at this hf
    rw [Array.getElem?_eq_getElem (by omega)] at this hf
    simp at this hf
    rw [this] at hf; cases hf
  | succ fuel ih =>
    intro L a w hL hdn hc hS
    refine ⟨fun hr => fin L a w (all_doneE hedge hr hL) hS, fun k hk => ?_⟩
    obtain ⟨hko, hkL, _⟩ := ready_mem hk
    have hkLf : L.getD k false = false := by
      simp only [Array.getD_eq_getD_getElem?] at hkL ⊢
      rw [Array.getElem?_eq_getElem (by omega)] at hkL ⊢
      simpa using hkL
    obtain ⟨R, hR⟩ := hget k hko
    obtain ⟨M, h, τ, S⟩ := hS
    have hle := F.le k R hR
    -- those that are not ordered against it
    have hno1 : ∀ (i : Nat), i < k → L.getD i false = false → R.pm.testBit i = false := fun i _ hi => by
      cases hb : R.pm.testBit i with
      | false => rfl
      | true => rw [ready_bits F hops hdn hk hR hb] at hi; cases hi
    have hno2 : ∀ (i : Nat) X, k < i → rs[i]? = some X → L.getD i false = true → X.pm.testBit k = false := fun i X _ hX hi => by
      cases hb : X.pm.testBit k with
      | false => rfl
      | true => rw [down_bits F hops hdn i k X hi hX hb] at hkLf; cases hkLf
    have hnew : ∀ (j : Nat) X b, rs[j]? = some X → R.lo ≤ b → b < R.r.nx → X.lo ≤ b → b < X.r.nx → j = k := fun j X b hX h1 h2 h3 h4 => by
      rcases Nat.lt_trichotomy j k with h | h | h
      · have := F.ord j k X R h hX hR; omega
      · exact h
      · have := F.ord k j R X h hR hX; omega
    have hgdom : ∀ b, R.g.get b ≠ none → M0.d b ∨ nx0 ≤ b ∧ b < R.lo := fun b hb => by
      cases hx : R.g.get b with
      | none => exact absurd hx hb
      | some o => exact F.dom k R b hR (by rw [F.a k R b o hR hx]; simp)
    have hgnew : ∀ b, R.g.get b ≠ none → ∀ (j : Nat) X, k < j → rs[j]? = some X → ¬ (X.lo ≤ b ∧ b < X.r.nx) := fun b hb j X hj hX hx => by
      have h1 := F.le j X hX
      rcases hgdom b hb with h2 | h2
      · exact hfr.2 b (by omega) (by omega) h2
      · have := F.ord k j R X hj hR hX; omega
    have hgun : ∀ b, R.g.get b ≠ none → ∀ (i : Nat) X, rs[i]? = some X → (i < k ∧ L.getD i false = false) ∨ (k < i ∧ L.getD i false = true) ∨ (i < k ∧ R.pm.testBit i = false) → Un X b := fun b hb i X hX hc => by
      rcases hc with ⟨h1, h2⟩ | ⟨h1, h2⟩ | ⟨h1, h2⟩
      · exact F.u1 i k X R b h1 hX hR (hno1 i h1 h2) hb
      · have h3 := hgnew b hb i X h1 hX
        rcases F.u2 k i R X b h1 hR hX (hno2 i X h1 hX h2) hb with h4 | h4
        · exact absurd h4 h3
        · exact ⟨by omega, h4⟩
      · exact F.u1 i k X R b h1 hX hR h2 hb
    have hclaim : ∀ b, R.g.get b ≠ none → h b = R.H0.get b := fun b hb => by
      rcases last_or (p := fun i => ∃ X, rs[i]? = some X ∧ L.getD i false = true ∧ ¬ Un X b) k with h1 | ⟨i, h1, ⟨X, h2, h3, h4⟩, h5⟩
      · have hu : ∀ (i : Nat) X, rs[i]? = some X → i < k → Un X b := fun i X hX hi => by
          cases hl : L.getD i false with
          | false => exact hgun b hb i X hX (.inl ⟨hi, hl⟩)
          | true => exact Classical.byContradiction fun hc => h1 i hi ⟨X, hX, hl, hc⟩
        rw [S.i1 b fun i X hl hX => ?_, F.chs k R b hR fun j X hj hX => hu j X hX hj]
        rcases Nat.lt_trichotomy i k with hi | hi | hi
        · exact hu i X hX hi
        · subst hi; rw [hkLf] at hl; cases hl
        · exact hgun b hb i X hX (.inr (.inl ⟨hi, hl⟩))
      · have hu : ∀ (j : Nat) Y, rs[j]? = some Y → i < j → j < k → Un Y b := fun j Y hY hj hjk => by
          cases hl : L.getD j false with
          | false => exact hgun b hb j Y hY (.inl ⟨hjk, hl⟩)
          | true => exact Classical.byContradiction fun hc => h5 j hj hjk ⟨Y, hY, hl, hc⟩
        rw [S.i2 i X b h3 h2 h4 fun j Y hj hl hY => ?_, F.chi i k X R b h1 h2 hR fun j Y hj hjk hY => hu j Y hY hj hjk]
        rcases Nat.lt_trichotomy j k with hi | hi | hi
        · exact hu j Y hY hj hi
        · subst hi; rw [hkLf] at hl; cases hl
        · exact hgun b hb j Y hY (.inr (.inl ⟨hi, hl⟩))
    have hg : ∀ b o, R.g.get b = some o → h b = some o := fun b o hb => by
      rw [hclaim b (by rw [hb]; simp)]; exact F.a k R b o hR hb
    have ht : ∀ t e, R.T.get t = some e → τ t = some e := fun t e he => by
      rcases F.t k R t e hR he with ⟨i, u, h1, h2, h3, h4, h5⟩ | ⟨h1, h2⟩
      · rw [S.j1 i u t (ready_bits F hops hdn hk hR h3) h2 h4, h5]
      · rw [S.j2 t fun i X hl hX hd => ?_, h2]
        rcases Nat.lt_trichotomy i k with hi | hi | hi
        · exact h1 i X hi hX hd
        · subst hi; rw [hkLf] at hl; cases hl
        · rw [F.t2 k i R X t hi hR hX (hno2 i X hi hX hl) hd] at he; cases he
    have hfrM : Fr P M R.lo R.r.nx := ⟨S.st.le.L.trans hfr.1, fun b h1 h2 hd => by
      rcases S.d b hd with h3 | ⟨j, X, h3, h4, h5, h6⟩
      · exact hfr.2 b (by omega) (by omega) h3
      · have := hnew j X b h4 h1 h2 h5 h6
        subst this
        rw [hkLf] at h3; cases h3⟩
    have hLk : ∀ j : Nat, (L.setIfInBounds k true).getD j false = if j = k then true else L.getD j false := fun j => getD_set (by omega) false
    have hLm : ∀ j : Nat, L.getD j false = true → (L.setIfInBounds k true).getD j false = true := fun j hj => by
      rw [hLk]; split
      · rfl
      · exact hj
    let h' : Nat → Option EO := fun b => if R.g.get b = none ∧ ¬ (R.lo ≤ b ∧ b < R.r.nx) then h b else R.r.H.get b
    have hh1 : ∀ b, R.g.get b = none → ¬ (R.lo ≤ b ∧ b < R.r.nx) → h' b = h b := fun b h1 h2 => if_pos ⟨h1, h2⟩
    have hh2 : ∀ b, (R.g.get b ≠ none ∨ R.lo ≤ b ∧ b < R.r.nx) → h' b = R.H1.get b := fun b hb => by
      rw [F.b k R b hR hb]
      exact if_neg fun hx => hb.elim (fun h1 => h1 hx.1) hx.2
    have hstay : ∀ b, Un R b → h' b = h b := fun b hb => by
      by_cases hgb : R.g.get b = none
      · exact hh1 b hgb (by have := hb.1; omega)
      · rw [hh2 b (.inl hgb), hclaim b hgb, hb.2]
    have hcc : ∀ b, h' b = R.r.H.get b ∨ (R.g.get b = none ∧ h' b = h b) := fun b => by
      by_cases hx : R.g.get b = none ∧ ¬ (R.lo ≤ b ∧ b < R.r.nx)
      · exact .inr ⟨hx.1, if_pos hx⟩
      · exact .inl (if_neg hx)
    have key : ∀ M' a' w', EA M' h' (putF τ R.o.dst R.r.v) n a' w' → Stp M h w M' h' w' → Gr M M' R.lo R.r.nx → (∀ b, R.g.get b = none → ¬ (R.lo ≤ b ∧ b < R.r.nx) → R.r.H.get b = none) → wpAny P .any ops Q fuel (L.setIfInBounds k true) a' w' := by
      intro M' a' w' k1 k2 k3 _
      refine ih _ a' w' (by simpa using hL) (hdn.set hk) (by rw [count_set (by omega) hkL]; omega) ⟨M', h', _, k1, S.st.trans k2, fun b hb => ?_, fun b hu => ?_, fun i X b hi hX hn hu => ?_, fun i X t hi hX hd => ?_, fun t hu => ?_⟩
      · rcases k3.2 b hb with h1 | h1
        · rcases S.d b h1 with h2 | ⟨j, X, h2, h3⟩
          · exact .inl h2
          · exact .inr ⟨j, X, hLm _ h2, h3⟩
        · exact .inr ⟨k, R, by rw [hLk, if_pos rfl], hR, h1⟩
      · have hR' := hu k R (by rw [hLk, if_pos rfl]) hR
        rw [hstay b hR']
        exact S.i1 b fun i X hi hX => hu i X (hLm _ hi) hX
      · have hu' : ∀ (j : Nat) Y, i < j → L.getD j false = true → rs[j]? = some Y → Un Y b := fun j Y hj hl hY => hu j Y hj (hLm _ hl) hY
        rcases Nat.lt_trichotomy i k with hik | hik | hik
        · have hi' : L.getD i false = true := by rw [hLk, if_neg (by omega)] at hi; exact hi
          have hR' := hu k R hik (by rw [hLk, if_pos rfl]) hR
          rw [hstay b hR']
          exact S.i2 i X b hi' hX hn hu'
        · subst hik
          rw [hR] at hX
          obtain rfl := Option.some.inj hX
          by_cases hgb : R.g.get b ≠ none ∨ R.lo ≤ b ∧ b < R.r.nx
          · exact hh2 b hgb
          · exfalso
            have h1 : R.g.get b = none := Classical.byContradiction fun hc => hgb (.inl hc)
            have h2 : ¬ (R.lo ≤ b ∧ b < R.r.nx) := fun hc => hgb (.inr hc)
            exact hn ⟨by omega, (F.c i R b hR h1 h2).symm⟩
        · have hi' : L.getD i false = true := by rw [hLk, if_neg (by omega)] at hi; exact hi
          have hbit := hno2 i X hik hX hi'
          have hXt : X.g.get b ≠ none ∨ X.lo ≤ b ∧ b < X.r.nx := Classical.byContradiction fun hc => by
            have h1 : X.g.get b = none := Classical.byContradiction fun hd => hc (.inl hd)
            have h2 : ¬ (X.lo ≤ b ∧ b < X.r.nx) := fun hd => hc (.inr hd)
            exact hn ⟨by omega, (F.c i X b hX h1 h2).symm⟩
          have hR' : R.g.get b = none ∧ ¬ (R.lo ≤ b ∧ b < R.r.nx) := by
            refine ⟨Classical.byContradiction fun hgb => ?_, fun hnw => ?_⟩
            · exact hn (hgun b hgb i X hX (.inr (.inl ⟨hik, hi'⟩)))
            · rcases hXt with h1 | h1
              · have := (F.u1 k i R X b hik hR hX hbit h1).1; omega
              · have := hnew i X b hX hnw.1 hnw.2 h1.1 h1.2; omega
          rw [hh1 b hR'.1 hR'.2]
          exact S.i2 i X b hi' hX hn hu'
      · simp only [putF]
        by_cases hik : i = k
        · subst hik
          rw [hR] at hX
          obtain rfl := Option.some.inj hX
          rw [if_pos hd]
        · rw [hLk, if_neg hik] at hi
          rw [if_neg fun hd' => hik (hdst i k X R t hX hR hd hd')]
          exact S.j1 i X t hi hX hd
      · simp only [putF]
        rw [if_neg (hu k R (by rw [hLk, if_pos rfl]) hR)]
        exact S.j2 t fun i X hi hX => hu i X (hLm _ hi) hX
    have := op_merge (P := P) (F.sd k R hR) S.ea hfrM hg ht h' hcc Q (wpAny P .any ops Q fuel (L.setIfInBounds k true)) key
    unfold wpOp
    simp only [hop k R hR]
    split at this
    · rename_i hw
      rw [if_pos hw]
      exact .inl this
    · rename_i hw
      rw [if_neg hw]
      exact this
end
end Go.Proofs.YtaopcacmfhdfkaaGreatDoor.Ev

namespace Go.Proofs.YtaopcacmfhdfkaaGreatDoor.Ev
open Go Go.RowKit Go.Proofs.YtaopcacmfhdfkaaGreatDoor.Vc
set_option linter.unusedSimpArgs false
set_option linter.unusedVariables false

section
variable {P : Program} [Lay P]

theorem argE_get : ∀ (es : List EV) (k : Nat) (T : Tr EV) (t : Nat), k + es.length < LIM → (argE k es T).get t = if k ≤ t ∧ t < k + es.length then es[t - k]? else T.get t
  | [], k, T, t, _ => by
    simp only [argE, List.length_nil, Nat.add_zero]
    rw [if_neg (by omega)]
  | e :: es, k, T, t, h => by
    simp only [List.length_cons] at h
    simp only [argE, List.length_cons]
    rw [argE_get es (k + 1) _ t (by omega), Tr.get_set _ _ _ _ _ (lim_fu (by omega))]
    by_cases h1 : t = k
    · subst h1
      rw [if_neg (by omega), if_pos rfl, if_pos (by omega)]
      simp
    · by_cases h2 : k + 1 ≤ t ∧ t < k + 1 + es.length
      · rw [if_pos h2, if_pos (by omega)]
        rw [show t - k = (t - (k + 1)) + 1 by omega, List.getElem?_cons_succ]
      · rw [if_neg h2, if_neg h1, if_neg (by omega)]

/-- A function begins. -/
theorem start_EA {M : Nm} {H : EH} {w : World} {args : List EV} {vs : List Value} {n : Nat} (h : EI M H.get w) (hr : ERL M args vs) (hl : n < LIM) (hn : args.length ≤ n) : EA M H.get (argE 0 args .nil).get n { tmps := vs.toArray ++ Array.replicate (n - vs.toArray.size) undef, defers := [] } w := by
  have hvl := hr.length
  refine ⟨h, fun t e ht => ?_, rfl, by simp; omega, hl⟩
  rw [argE_get _ _ _ _ (by omega)] at ht
  split at ht
  · rename_i hlt
    simp only [Nat.sub_zero] at ht
    obtain ⟨y, h1, h2⟩ := hr.get t e ht
    have h3 : t < vs.length := (List.getElem?_eq_some_iff.1 h1).1
    show ER M e ((vs.toArray ++ Array.replicate (n - vs.toArray.size) undef).getD t undef)
    rw [Array.getD_eq_getD_getElem?, Array.getElem?_append_left (by simpa using h3)]
    simp only [List.getElem?_toArray, h1, Option.getD_some]
    exact h2
  · simp [Tr.get_nil] at ht

theorem resE_ok {M : Nm} {H : EH} {T : Tr EV} {n : Nat} {a : Act} {w : World} (h : EA M H.get T.get n a w) : ∀ {rs : List ResultVar} {es : List EV}, resE P M.L H T rs = some es → ∃ vs : List Value, ERL M es vs ∧
    (rs.mapM (fun | .tmp t => pure (a.tmps.getD t undef) | .cell x t => do loadVar t (← asAddr (a.tmps.getD x undef)) : ResultVar → Sem Value)).run P w = .ok vs w
  | [], es, hr => by
    have _ := ‹Lay P›
    simp only [resE, Option.some.injEq] at hr; subst hr; exact ⟨[], by simp [ERL], by simp⟩
  | .tmp t :: rs, es, hr => by
    simp only [resE] at hr
    split at hr
    · rename_i e es' h1 h2
      obtain rfl := Option.some.inj hr
      obtain ⟨vs, h3, h4⟩ := resE_ok h h2
      refine ⟨a.tmps.getD t undef :: vs, by simp only [ERL]; exact ⟨_, _, rfl, h.tm t e h1, h3⟩, ?_⟩
      rw [List.mapM_cons, Sem.run_bind]
      simp only [Sem.run_pure, Result.andThen_ok, Sem.run_bind]
      rw [h4]
      rfl
    · cases hr
  | .cell x ty :: rs, es, hr => by
    simp only [resE] at hr
    split at hr
    · rename_i m e es' hs h1 h2
      simp only [Option.map_eq_some_iff] at hr
      obtain ⟨cs, hm, rfl⟩ := hr
      obtain ⟨vs, h3, h4⟩ := resE_ok h h2
      obtain ⟨ad, us, he, h0, _, h5, h6, h7⟩ := memE_ok h.hp (h.tm x e h1) hm
      obtain ⟨hu, i, hi, hsz⟩ := aggSize_some hs
      have hl := run_loadAgg (P := P) (w := w) hu hi (ad := ad) (us := us) (by rw [hsz]; exact h0) h7
      simp only [Instr.loadAt, Instr.sureAddr] at hl
      refine ⟨.agg us.toArray :: vs, by simp only [ERL, ER]; exact ⟨_, _, rfl, ⟨us, rfl, h6, h5⟩, h3⟩, ?_⟩
      rw [List.mapM_cons, Sem.run_bind]
      have h8 : (do loadVar ty (← asAddr (a.tmps.getD x undef)) : Sem Value).run P w = .ok (.agg us.toArray) w := by
        simp only [he, asAddr]; simpa using hl
      rw [h8]
      simp only [Result.andThen_ok, Sem.run_bind]
      rw [h4]
      rfl
    · rename_i e es' hs h1 h2
      split at hr
      · rename_i v hm
        obtain rfl := Option.some.inj hr
        obtain ⟨vs, h3, h4⟩ := resE_ok h h2
        obtain ⟨ad, us, he, h0, _, h5, h6, h7⟩ := memE_ok h.hp (h.tm x e h1) hm
        obtain ⟨d, hu, hd⟩ := aggSize_none hs
        obtain ⟨y, hy, hrel⟩ := h5.get 0 v rfl
        have hl := run_loadOne (P := P) (w := w) hu hd (ad := ad) (u := y) (by simpa [Addr.add] using h7 0 y hy)
        simp only [Instr.loadAt, Instr.sureAddr] at hl
        refine ⟨y :: vs, by simp only [ERL]; exact ⟨_, _, rfl, hrel, h3⟩, ?_⟩
        rw [List.mapM_cons, Sem.run_bind]
        have h8 : (do loadVar ty (← asAddr (a.tmps.getD x undef)) : Sem Value).run P w = .ok y w := by
          simp only [he, asAddr]; simpa using hl
        rw [h8]
        simp only [Result.andThen_ok, Sem.run_bind]
        rw [h4]
        rfl
      · cases hr
    · cases hr

theorem results_E {M : Nm} {H : EH} {T : Tr EV} {n : Nat} {a : Act} {w : World} (h : EA M H.get T.get n a w) {fn : Func} {es : List EV} (hr : resE P M.L H T fn.results.toList = some es) : ∃ v, (results fn a.tmps).run P w = .ok v w ∧ ER M (oneE es) v := by
  obtain ⟨vs, h1, h2⟩ := resE_ok h hr
  have hvl := h1.length
  have hrun : (fn.results.mapM (fun | .tmp t => pure (a.tmps.getD t undef) | .cell x t => do loadVar t (← asAddr (a.tmps.getD x undef)) : ResultVar → Sem Value)).run P w = .ok vs.toArray w := by
    rw [Array.mapM_eq_mapM_toList, Sem.run_map, h2]; rfl
  have hres : (results fn a.tmps).run P w = (Result.ok vs.toArray w).andThen fun xs w' => (Pure.pure (if h : xs.size = 1 then xs[0] else Value.tuple xs) : Sem Value).run P w' := by
    rw [← hrun, ← Sem.run_bind]
    unfold results
    congr 2
  rw [hres]
  simp only [Result.andThen_ok, Sem.run_pure]
  match es, vs, h1 with
  | [], vs, h1 => simp only [ERL] at h1; subst h1; exact ⟨_, rfl, by simp [oneE, ER, ERL]⟩
  | [t], vs, h1 =>
    simp only [ERL] at h1
    obtain ⟨u, us, rfl, h3, rfl⟩ := h1
    exact ⟨u, by simp, h3⟩
  | t1 :: t2 :: ts, vs, h1 =>
    have h5 := h1
    simp only [ERL] at h1
    obtain ⟨u, us, rfl, h3, u', us', rfl, h4⟩ := h1
    refine ⟨_, rfl, ?_⟩
    simp only [oneE]
    rw [dif_neg (by simp)]
    simp only [ER]
    exact ⟨_, rfl, h5⟩


theorem Built.le {n : Nat} {all : Array Oper} {T0 : Tr EV} {Hs : EH} {nx0 : Nat} {rs : List Rec} {T : Tr EV} {H : EH} {nx : Nat} (h : Built P n all T0 Hs nx0 rs T H nx) : nx0 ≤ nx := by
  induction h with
  | nil => exact Nat.le_refl _
  | snoc _ hr ih => have h1 := hr.sd.1; have h2 := hr.lo; omega
theorem rep_false {m j : Nat} : (Array.replicate m false).getD j false = false := by
  simp [Array.getD_eq_getD_getElem?, Array.getElem?_replicate]
  split <;> simp

theorem opsS_Sd {evf : Tk → EH → Nat → Option Rz} (ih : ∀ (tk : Tk) (H : EH) (nx : Nat) (r : Rz), evf tk H nx = some r → Sd P H nx r tk) {n : Nat} {all : Array Oper} {os : List Oper} {T : Tr EV} {H : EH} {nx : Nat} {r : Rz} (h : opsS P (Lay.cells P) evf n all os T H nx = some r) : Sd P H nx r (.ops n all os T) := by
  cases os with
  | nil =>
    simp only [opsS, Option.some.injEq] at h
    subst h
    refine ⟨Nat.le_refl _, fun M a w i hA _ _ Q hQ => ?_⟩
    simp only [List.length_nil, List.range'_zero, wpOps]
    exact hQ _ _ _ ⟨rfl, M, hA, .refl M H.get w hA.hp, .refl _ _ _⟩
  | cons o os =>
    have key : ∀ {r1 : Rz}, Sd P H nx r1 (.op n all o T) → evf (.ops n all os (putE T o.dst r1.v)) r1.H r1.nx = some r → Sd P H nx r (.ops n all (o :: os) T) := by
      intro r1 hr1 h
      obtain ⟨hle1, hd, hs⟩ := hr1
      obtain ⟨hle2, hs2⟩ := ih _ _ _ _ h
      simp only [SdT] at hs2
      refine ⟨Nat.le_trans hle1 hle2, fun M a w i hA hfr hos Q hQ => ?_⟩
      have ho : all[i]? = some o := by
        have := congrArg (fun l => l[0]?) hos
        simpa using this.symm
      have hos' : os = all.toList.drop (i + 1) := by
        have := congrArg List.tail hos
        simpa using this
      simp only [List.length_cons, List.range'_succ, wpOps, ho]
      have := hs M a w hA (hfr.left hle2) Q (wpOps P all Q (List.range' (i + 1) os.length)) fun M1 v w1 h1 h2 h3 h4 =>
        hs2 M1 _ w1 (i + 1) (hA.put h1 h2.le hd h4) (hfr.right h3 hle1) hos' Q fun e a' w' hq => hQ e a' w' (hq.step h2 h3 hle1 hle2)
      split at this
      · rename_i hw; rw [if_pos hw]; exact .inl this
      · rename_i hw; rw [if_neg hw]; exact this
    simp only [opsS] at h
    split at h
    · split at h
      · rename_i r1 hr1
        exact key (ih _ _ _ _ hr1) h
      · cases h
    · split at h
      · rename_i v H' nx' hr1
        exact key (op1_Sd hr1) h
      · cases h

theorem drawE_Sd {evf : Tk → EH → Nat → Option Rz} (ih : ∀ (tk : Tk) (H : EH) (nx : Nat) (r : Rz), evf tk H nx = some r → Sd P H nx r tk) {n id : Nat} {ops : Array Oper} {T : Tr EV} {H : EH} {nx : Nat} {r : Rz} (h : drawE P (Lay.cells P) evf n ops T H nx = some r) : Sd P H nx r (.code n (.region id ops true) T) := by
  unfold drawE at h
  obtain ⟨hg, h⟩ := grd_some h
  simp only [Bool.and_eq_true] at hg
  obtain ⟨⟨hm, hnd⟩, hdl⟩ := hg
  split at h
  · rename_i ps hps
    split at h
    · rename_i rs T' H' nx' hdr
      obtain rfl := Option.some.inj h
      obtain ⟨hPB, _⟩ := plE_ok ops.toList [] [] [] ps rfl .nil hps
      rw [List.nil_append] at hPB
      obtain ⟨hB, hops⟩ := drwE_built (P := P) (all := ops) (n := n) (T0 := T) (Hs := H) (nx0 := nx) ih hPB ops.toList ps [] _ H nx rs T' H' nx' (by simp) (by simp) (by simp) (by simp) .nil hdr
      simp only [List.map_nil, List.nil_append] at hops
      have hle : nx ≤ nx' := hB.le
      refine ⟨hle, fun M a w hA hfr => wp_region_any hm ?_⟩
      have hA' : EA M H.get T.get n a { w with drawn := w.drawn + 1 } := ⟨(EI.same hA.hp (w' := { w with drawn := w.drawn + 1 }) rfl rfl rfl rfl).1, hA.tm, hA.defers, hA.size, hA.lim⟩
      have hst0 : Stp M H.get w M H.get { w with drawn := w.drawn + 1 } := (EI.same hA.hp (w' := { w with drawn := w.drawn + 1 }) rfl rfl rfl rfl).2
      have F := hB.facts hA' nx' (Nat.le_refl _) hfr
      refine draw_E F hops hnd hfr (w0 := w) (fun M' a' w' h1 h2 h3 => ⟨rfl, M', h1, h2, h3⟩) ops.size _ a _ (by simp) ?_ (by simp) ⟨M, H.get, _, hA', hst0, fun b hb => .inl hb, fun b _ => rfl, fun i R b hi => ?_, fun i R t hi => ?_, fun t _ => rfl⟩
      · intro i o e hi
        rw [rep_false] at hi; cases hi
      · rw [rep_false] at hi; cases hi
      · rw [rep_false] at hi; cases hi
    · cases h
  · cases h

theorem codeS_Sd {evf : Tk → EH → Nat → Option Rz} (ih : ∀ (tk : Tk) (H : EH) (nx : Nat) (r : Rz), evf tk H nx = some r → Sd P H nx r tk) {n : Nat} {c : Code} {T : Tr EV} {H : EH} {nx : Nat} {r : Rz} (h : codeS P (Lay.cells P) evf n c T H nx = some r) : Sd P H nx r (.code n c T) := by
  unfold codeS at h
  split at h
  · obtain rfl := Option.some.inj h
    exact ⟨Nat.le_refl _, fun M a w hA _ => wp_skip ⟨rfl, M, hA, .refl M H.get w hA.hp, .refl _ _ _⟩⟩
  · obtain rfl := Option.some.inj h
    exact ⟨Nat.le_refl _, fun M a w hA _ => wp_label ⟨rfl, M, hA, .refl M H.get w hA.hp, .refl _ _ _⟩⟩
  · obtain rfl := Option.some.inj h
    exact ⟨Nat.le_refl _, fun M a w hA _ => wp_exit ⟨rfl, M, hA, .refl M H.get w hA.hp, .refl _ _ _⟩⟩
  · obtain rfl := Option.some.inj h
    exact ⟨Nat.le_refl _, fun M a w hA _ => wp_ret ⟨rfl, M, hA, .refl M H.get w hA.hp, .refl _ _ _⟩⟩
  · rename_i ops
    obtain ⟨hle, hs⟩ := opsS_Sd ih h
    simp only [SdT] at hs
    refine ⟨hle, fun M a w hA hfr => wp_region ?_⟩
    have := hs M a w 0 hA hfr (by simp) _ (fun _ _ _ h => h)
    rwa [Array.length_toList, ← List.range_eq_range'] at this
  · exact drawE_Sd ih h
  · unfold seqS at h
    split at h
    · rename_i r1 hr1
      obtain ⟨hle1, hs⟩ := ih _ _ _ _ hr1
      simp only [SdT] at hs
      split at h
      · rename_i hre
        obtain ⟨hle2, hs2⟩ := ih _ _ _ _ h
        simp only [SdT] at hs2
        refine ⟨Nat.le_trans hle1 hle2, fun M a w hA hfr => wp_seq (wp_mono (hs M a w hA (hfr.left hle2)) (fun e a1 w1 hq => ?_))⟩
        obtain ⟨rfl, M1, h1, h2, h3⟩ := hq
        rw [hre]
        simp only [Exit.then]
        exact wp_mono (hs2 M1 a1 w1 h1 (hfr.right h3 hle1)) (fun e a2 w2 hq => hq.step h2 h3 hle1 hle2)
      · rename_i hre
        obtain rfl := Option.some.inj h
        refine ⟨hle1, fun M a w hA hfr => wp_seq (wp_mono (hs M a w hA hfr) (fun e a1 w1 hq => ?_))⟩
        obtain ⟨rfl, M1, h1, h2, h3⟩ := hq
        cases he : r1.e <;> simp only [Exit.then] <;> first | exact absurd he hre | exact ⟨he.symm, M1, h1, h2, h3⟩
    · cases h
  · unfold condS at h
    split at h
    · rename_i hx
      obtain ⟨hle, hs⟩ := ih _ _ _ _ h
      simp only [SdT] at hs
      exact ⟨hle, fun M a w hA hfr => wp_cond_split (of_v (hA.op _ _ hx)) (fun _ => hs M a w hA hfr) (fun h => by cases h)⟩
    · rename_i hx
      obtain ⟨hle, hs⟩ := ih _ _ _ _ h
      simp only [SdT] at hs
      exact ⟨hle, fun M a w hA hfr => wp_cond_split (of_v (hA.op _ _ hx)) (fun h => by cases h) (fun _ => hs M a w hA hfr)⟩
    · cases h
  · rename_i id x
    unfold blockS at h
    split at h
    · rename_i r1 hr1
      obtain ⟨hle, hs⟩ := ih _ _ _ _ hr1
      simp only [SdT] at hs
      split at h
      · rename_i j hre
        have hle' : nx ≤ r.nx := by
          cases hb : Nat.beq j id with
          | true => rw [hb] at h; obtain rfl := Option.some.inj h; exact hle
          | false => rw [hb] at h; obtain rfl := Option.some.inj h; exact hle
        refine ⟨hle', fun M a w hA hfr => wp_block (wp_mono (hs M a w hA (hfr.left (by
          cases hb : Nat.beq j id with
          | true => rw [hb] at h; obtain rfl := Option.some.inj h; exact Nat.le_refl _
          | false => rw [hb] at h; obtain rfl := Option.some.inj h; exact Nat.le_refl _))) (fun e a1 w1 hq => ?_))⟩
        obtain ⟨rfl, M1, h1, h2, h3⟩ := hq
        rw [hre]
        simp only [Exit.inBlock]
        cases hb : Nat.beq j id with
        | true =>
          rw [hb] at h
          obtain rfl := Option.some.inj h
          rw [if_pos (Nat.eq_of_beq_eq_true hb)]
          exact ⟨rfl, M1, h1, h2, h3⟩
        | false =>
          rw [hb] at h
          obtain rfl := Option.some.inj h
          rw [if_neg (by rintro rfl; rw [Nat.beq_refl] at hb; cases hb)]
          exact ⟨hre.symm, M1, h1, h2, h3⟩
      · rename_i hre
        obtain rfl := Option.some.inj h
        refine ⟨hle, fun M a w hA hfr => wp_block (wp_mono (hs M a w hA hfr) (fun e a1 w1 hq => ?_))⟩
        obtain ⟨rfl, M1, h1, h2, h3⟩ := hq
        cases he : r1.e <;> simp only [Exit.inBlock] <;> first | exact absurd he (hre _) | exact ⟨he.symm, M1, h1, h2, h3⟩
    · cases h
  · rename_i x
    obtain ⟨hle, hs⟩ := ih _ _ _ _ h
    simp only [SdT] at hs
    refine ⟨hle, fun M a w hA hfr b kk cs => ?_⟩
    obtain ⟨e, a1, w1, hq, harr⟩ := hs M a w hA hfr b kk cs
    exact ⟨e, a1, w1, hq, .of_steps (.one step_loop) harr⟩
  · cases h

theorem ev_sound {kn : Nat → List EV → EH → Nat → Option Rz} (hkn : ∀ f args H nx r, kn f args H nx = some r → Sd P H nx r (.call f args)) : ∀ (k : Nat) (tk : Tk) (H : EH) (nx : Nat) (r : Rz), ev P (Lay.cells P) kn k tk H nx = some r → Sd P H nx r tk := by
  intro k
  induction k with
  | zero => intro tk H nx r h; simp [ev] at h
  | succ k ih =>
    intro tk H nx r h
    simp only [ev] at h
    unfold stepS at h
    split at h
    · rename_i f args
      unfold callS at h
      split at h
      · rename_i r1 hk
        obtain rfl := Option.some.inj h
        exact hkn _ _ _ _ _ hk
      · split at h
        · rename_i fn hf
          split at h
          · rename_i code hb
            obtain ⟨hg, h⟩ := grd_some h
            simp only [Bool.and_eq_true, Bool.not_eq_true'] at hg
            split at h
            · rename_i r1 hr1
              obtain ⟨he, h⟩ := grd_some h
              simp only [Option.map_eq_some_iff] at h
              obtain ⟨es, hes, rfl⟩ := h
              obtain ⟨hle, hs⟩ := ih _ _ _ _ hr1
              simp only [SdT] at hs
              refine ⟨hle, ⟨fn, code, hf, hb, hg.1.1⟩, fun M w vs hI hfr hargs => calls_of_wp hf hb (wp_mono (hs M _ w (start_EA hI hargs (Nat.le_of_ble_eq_true hg.1.2) (Nat.le_of_ble_eq_true hg.2)) hfr) (fun e a w' hq => ?_))⟩
              obtain ⟨rfl, M', h1, h2, h3⟩ := hq
              obtain ⟨v, h4, h5⟩ := results_E h1 (by rw [h2.le.L, hfr.1]; exact hes)
              unfold endE at he
              split at he
              · rename_i hre; rw [hre]; exact ⟨h1.defers, v, h4, v, M', rfl, h1.hp, h2, h3, h5⟩
              · rename_i hre; rw [hre]; exact ⟨h1.defers, v, h4, v, M', rfl, h1.hp, h2, h3, h5⟩
              · cases he
            · cases h
          · cases h
        · cases h
    · exact opsS_Sd ih h
    · exact opS_Sd ih h
    · unfold rndS at h
      split at h
      · rename_i r1 hr1
        obtain ⟨hle1, hs⟩ := ih _ _ _ _ hr1
        simp only [SdT] at hs
        split at h
        · rename_i hre
          obtain ⟨hle2, hs2⟩ := ih _ _ _ _ h
          simp only [SdT] at hs2
          refine ⟨Nat.le_trans hle1 hle2, fun M a w hA hfr b kk cs => ?_⟩
          obtain ⟨e, a1, w1, ⟨rfl, M1, h1, h2, h3⟩, harr⟩ := hs M a w hA (hfr.left hle2) b (.inLoop _ :: kk) cs
          obtain ⟨e2, a2, w2, hq2, harr2⟩ := hs2 M1 a1 w1 h1 (hfr.right h3 hle1) b kk cs
          rw [hre] at harr
          exact ⟨e2, a2, w2, hq2.step h2 h3 hle1 hle2, .of_steps (Steps.trans harr (.one step_inLoop)) harr2⟩
        · rename_i hre
          obtain rfl := Option.some.inj h
          refine ⟨hle1, fun M a w hA hfr b kk cs => ?_⟩
          obtain ⟨e, a1, w1, ⟨rfl, M1, h1, h2, h3⟩, harr⟩ := hs M a w hA hfr b (.inLoop _ :: kk) cs
          refine ⟨r1.e, a1, w1, ⟨rfl, M1, h1, h2, h3⟩, ?_⟩
          cases he : r1.e with
          | normal => exact absurd he hre
          | exit id => rw [he] at harr; exact .pass (x := .inLoop _) rfl (fun _ _ => .inl (by simp)) harr
          | ret => rw [he] at harr; exact .pass (x := .inLoop _) rfl (fun _ _ => .inl (by simp)) harr
          | goto l => rw [he] at harr; exact .pass (x := .inLoop _) rfl (fun _ _ => .inl (by simp)) harr
          | panic ch => rw [he] at harr; exact .pass (x := .inLoop _) rfl (fun _ _ => .inl (by simp)) harr
          | outgrown => rw [he] at harr; exact .pass (x := .inLoop _) rfl (fun _ _ => .inl (by simp)) harr
      · cases h
    · exact codeS_Sd ih h
end
end Go.Proofs.YtaopcacmfhdfkaaGreatDoor.Ev

namespace Go.Proofs.YtaopcacmfhdfkaaGreatDoor.Ev
open Go Go.RowKit Go.Proofs.YtaopcacmfhdfkaaGreatDoor.Vc
set_option linter.unusedSimpArgs false
set_option linter.unusedVariables false

section
variable {P : Program} [Lay P]

theorem relL_vs {w : World} {ok : Nat → Prop} {E : Nat → Value} {ob : Obs} {M : Nm} : ∀ (l : List Value) (vs : List Value), RelL w ok E ob (l.map TV.v) vs → ERL M (l.map EV.v) vs
  | [], vs, h => by simpa only [List.map_nil, RelL, ERL] using h
  | x :: l, vs, h => by
    simp only [List.map_cons, RelL] at h
    obtain ⟨u, us, rfl, h1, h2⟩ := h
    simp only [Rel] at h1
    simp only [List.map_cons, ERL, ER]
    exact ⟨u, us, rfl, h1, relL_vs l us h2⟩

/-- A closed run is a contract. -/
theorem ev_spec {kn : Nat → List EV → EH → Nat → Option Rz} (hkn : ∀ f args H nx r, kn f args H nx = some r → Sd P H nx r (.call f args)) {f : Nat} {l : List Value} {y : Value} (k : Nat) (h : (match ev P (Lay.cells P) kn k (.call f (l.map .v)) .nil 0 with | some r => (match r.v with | .v y => some y | _ => none) | none => none) = some y) : Go.Proofs.YtaopcacmfhdfkaaGreatDoor.Vc.Spec P f (l.map TV.v) [] (.v y) [] := by
  split at h
  · rename_i r hr
    split at h
    · rename_i y' hv
      obtain rfl := Option.some.inj h
      obtain ⟨_, hs⟩ := ev_sound hkn k _ _ _ _ hr
      simp only [SdT] at hs
      refine ⟨hs.1, by simp, by simp, fun w ok E0 vs _ _ _ hargs hl => ?_⟩
      have hI : EI ⟨fun _ => 0, fun _ => 0, fun _ => False, Lay.cells P⟩ (Tr.nil : EH).get w := ⟨fun b hb => hb.elim, fun b o hb => by simp [Tr.get_nil] at hb, fun b b' hb => by simp [Tr.get_nil] at hb, fun p hp => ⟨(hl p.1 p.2 hp).2, fun b hb => by simp [Tr.get_nil] at hb⟩⟩
      refine (hs.2 _ w vs hI ⟨rfl, fun _ _ _ h => h⟩ (relL_vs l vs hargs)).mono ?_
      rintro e w' ⟨v, M', rfl, h1, h2, h3, h4⟩
      rw [hv] at h4
      refine ⟨v, fun _ => .nilIface, rfl, ⟨h2.os, h2.tape, h2.output, h2.size, fun k hk _ => h2.fr k hk (fun b hb => by simp [Tr.get_nil] at hb), trivial⟩, by simp, ?_, by simp, by simp, by simp⟩
      simp only [ER] at h4
      simp only [Rel]
      exact h4
    · cases h
  · cases h
end
end Go.Proofs.YtaopcacmfhdfkaaGreatDoor.Ev

namespace Go.Proofs.YtaopcacmfhdfkaaGreatDoor.Ev
open Go Go.RowKit Go.Proofs.YtaopcacmfhdfkaaGreatDoor.Vc
set_option linter.unusedSimpArgs false
set_option linter.unusedVariables false

section
variable {P : Program} [Lay P] {M : Nm} {h : Nat → Option EO} {w w' : World}

/-- What a call does that leaves all old blocks. -/
theorem EI.below (H : EI M h w) (B : Below w.heap.size w w') : EI M h w' ∧ Stp M h w M h w' := by
  have hlt : ∀ b, h b ≠ none → M.m b < w.heap.size := fun b hb => (H.lt hb).2
  refine ⟨⟨H.lim, fun b o hb => ?_, H.inj, fun p hp => ⟨?_, (H.laid p hp).2⟩⟩, ⟨.refl M, B.os, B.tape, B.output, B.size, fun b hb => .inl ⟨(H.lt hb).1, hb⟩, fun k hk _ => B.block k hk⟩⟩
  · obtain ⟨h1, r, h2, h3⟩ := H.ob b o hb
    exact ⟨h1, r, by rw [B.block _ (hlt b (by rw [hb]; simp))]; exact h2, h3⟩
  · obtain ⟨ty, fr, h1⟩ := (H.laid p hp).1
    exact ⟨ty, fr, by rw [B.block _ (Array.getElem?_eq_some_iff.1 h1).1]; exact h1⟩

/-- slices.Sorted(maps.Keys(m)) of an empty map. -/
noncomputable def knSort0 (keys : List Nat) (args : List EV) (H : EH) (nx : Nat) : Option Rz :=
  match args with
  | [.f (.func g) [] [.p bx 0]] => match H.get bx with
    | some (.row _ _ _ [.m b]) => match H.get b with
      | some (.map []) => grd (memN g keys) (some (rzE (.v (.slice none 0 0)) H nx))
      | _ => none
    | _ => none
  | _ => none
theorem knSort0_Sd {f : Nat} {keys : List Nat} (hc : callable P f)
    (hrun : ∀ g ∈ keys, ∀ (w : World) (bx b clock : Nat), w.cell? ⟨bx, 0, none⟩ = some (.map (some b)) → bx < w.heap.size → w.heap[b]? = some (.map #[] clock) → Calls P f #[.func (.func g) #[] #[.pointer (some ⟨bx, 0, none⟩)]] w fun e w' => e = .returned (.slice none 0 0) ∧ Below w.heap.size w w')
    {args : List EV} {H : EH} {nx : Nat} {r : Rz} (hr : knSort0 keys args H nx = some r) : Sd P H nx r (.call f args) := by
  unfold knSort0 at hr
  split at hr
  · rename_i g bx
    split at hr
    · rename_i ty sz ex b hbx
      split at hr
      · rename_i hb
        obtain ⟨hg, hr⟩ := grd_some hr
        obtain rfl := Option.some.inj hr
        refine ⟨Nat.le_refl _, hc, fun M w vs hI hF hargs => ?_⟩
        simp only [ERL, ER] at hargs
        obtain ⟨u, us, rfl, ⟨v1, v2, rfl, rfl, u2, us2, rfl, ⟨_, rfl⟩, rfl⟩, rfl⟩ := hargs
        obtain ⟨_, o, h1, C, rfl, h2, h3, _, h4⟩ := hI.ob bx _ hbx
        obtain ⟨y, h5, h6, _⟩ := h4 0 _ rfl
        simp only [ER] at h6
        obtain ⟨_, rfl⟩ := h6
        obtain ⟨_, o2, h7, E, cl, rfl, _, h8, _⟩ := hI.ob b _ hb
        obtain rfl : E = #[] := by
          apply Array.eq_empty_of_size_eq_zero
          simpa using h8
        refine (hrun g (memN_iff.1 hg) w (M.m bx) (M.m b) cl ?_ (hI.lt (by rw [hbx]; simp)).2 h7).mono ?_
        · simp [World.cell?, h1, h5]
        · rintro e w' ⟨rfl, B⟩
          obtain ⟨h9, h10⟩ := hI.below B
          exact ⟨_, M, rfl, h9, h10, .refl _ _ _, er_v rfl⟩
      · cases hr
    · cases hr
  · cases hr

theorem none_kn {P : Program} [Lay P] : ∀ (f : Nat) (args : List EV) (H : EH) (nx : Nat) (r : Rz), (fun (_ : Nat) (_ : List EV) (_ : EH) (_ : Nat) => (none : Option Rz)) f args H nx = some r → Sd P H nx r (.call f args) := fun _ _ _ _ _ h => by cases h

/-- A run from arguments that are not looked into, told of any world. -/
noncomputable def isT : Option Rz → Bool
  | some r => match r.v with | .v (.bool b) => b | _ => false
  | none => false
theorem ev_true {kn : Nat → List EV → EH → Nat → Option Rz} (hkn : ∀ f args H nx r, kn f args H nx = some r → Sd P H nx r (.call f args)) {f : Nat} {es : List EV} (k : Nat) (h : isT (ev P (Lay.cells P) kn k (.call f es) .nil 0) = true) {w : World} {vs : List Value} (hv : ∀ M : Nm, ERL M es vs) (hl : laidW P w (fun k => k < w.heap.size)) :
    Calls P f vs.toArray w fun e w' => e = .returned (.bool true) ∧ Below w.heap.size w w' := by
  unfold isT at h
  split at h
  · rename_i r hr
    split at h
    · rename_i b hv'
      subst h
      obtain ⟨_, _, hs⟩ := ev_sound hkn k _ _ _ _ hr
      have hI : EI ⟨fun _ => 0, fun _ => 0, fun _ => False, Lay.cells P⟩ (Tr.nil : EH).get w := ⟨fun b hb => hb.elim, fun b o hb => by simp [Tr.get_nil] at hb, fun b b' hb => by simp [Tr.get_nil] at hb, fun p hp => ⟨(hl p.1 p.2 hp).2, fun b hb => by simp [Tr.get_nil] at hb⟩⟩
      refine (hs _ w vs hI ⟨rfl, fun _ _ _ h => h⟩ (hv _)).mono ?_
      rintro e w' ⟨v, M', rfl, h1, h2, _, h4⟩
      rw [hv'] at h4
      rw [of_v h4]
      exact ⟨rfl, h2.os, h2.tape, h2.output, h2.size, fun k hk => h2.fr k hk (fun b hb => by simp [Tr.get_nil] at hb)⟩
    · cases h
  · cases h
end
end Go.Proofs.YtaopcacmfhdfkaaGreatDoor.Ev
