/- The law is reckoned, whatever it is given. -/
import Derived.Test.YtaopcacmfhdfkaaGreatDoorKa
import Derived.KernelRfl
import Derived.Lib.LaidTab
namespace Go.Proofs.YtaopcacmfhdfkaaGreatDoor.Ev
open Go Go.RowKit Go.Proofs.YtaopcacmfhdfkaaGreatDoor.Vc Go.Proofs.Tryz
set_option linter.unusedSimpArgs false
set_option linter.unusedVariables false
def tab64 : List Int := [0, 1, 56, 2, 57, 49, 28, 3, 61, 58, 42, 50, 38, 29, 17, 4, 62, 47, 59, 36, 45, 43, 51, 22, 53, 39, 33, 30, 24, 18, 12, 5, 63, 55, 48, 27, 60, 41, 37, 16, 46, 35, 44, 21, 52, 32, 23, 11, 54, 26, 40, 15, 34, 20, 31, 10, 25, 14, 19, 9, 13, 8, 7, 6]
/-- The variable that the library reads: math/bits' table of de Bruijn. -/
noncomputable instance layD : Lay prog := ⟨[(0, (tab64.map fun z => Value.int .u8 z).toArray)]⟩
noncomputable def knD (f : Nat) (args : List EV) (H : EH) (nx : Nat) : Option Rz := bif Nat.beq f 79 then knSort0 [81] args H nx else none
set_option maxRecDepth 100000
theorem run3 (x y a b c : Value) : isT (ev prog (Lay.cells prog) knD 1000 (.call 3 [.o x, .o y, .a [.o a, .o b, .o c]]) .nil 0) = true := by kernel_rfl
theorem knD_ok : ∀ f args H nx r, knD f args H nx = some r → Sd prog H nx r (.call f args) := by
  intro f args H nx r h
  unfold knD at h
  cases hb : Nat.beq f 79 with
  | false => rw [hb] at h; cases h
  | true =>
    rw [hb] at h
    obtain rfl := Nat.eq_of_beq_eq_true hb
    exact knSort0_Sd ⟨f79, _, func79, rfl, rfl⟩ coll0 h
theorem cell_one {P : Program} {w : World} {r : Reach} {b : Nat} {t : TypeId} {v : Value} (h : Cell.okWide P w r b t v) : v.oneCell' = true := by
  cases v <;> first | rfl | skip
  all_goals
    unfold Cell.okWide Cell.ok at h
    cases hu : P.underlying t with
    | none => rw [hu] at h; simp at h
    | some d => rw [hu] at h; cases d <;> simp at h
/-- The law, of any world. -/
theorem law3 {w : World} {r : Reach} {b0 : Nat} {v0 v1 v2 : Value} (h2 : Value.okWide prog w r b0 25 v2) (hl : laidW prog w (fun k => k < w.heap.size)) :
    Calls prog 3 #[v0, v1, v2] w fun e w' => e = .returned (.bool true) ∧ Below w.heap.size w w' := by
  unfold Value.okWide at h2
  rw [underlying25] at h2
  obtain ⟨cs, rfl, hsz, _, _, _, hc⟩ := h2
  have h3 : prog.cellsOf 25 = 3 := by kernel_rfl
  rw [h3] at hsz
  obtain ⟨l⟩ := cs
  match l, hsz with
  | [a, b, c], _ =>
    have h1 : ∀ u ∈ [a, b, c], u.oneCell' = true := fun u hu => by
      obtain ⟨i, hi⟩ := List.mem_iff_getElem?.1 hu
      obtain ⟨_, _, h4⟩ := hc i u (by simpa using hi)
      exact cell_one h4
    exact ev_true knD_ok 1000 (run3 v0 v1 a b c) (vs := [v0, v1, .agg #[a, b, c]]) (fun M => by
      simp only [ERL, ER]
      exact ⟨v0, _, rfl, rfl, v1, _, rfl, rfl, .agg #[a, b, c], _, rfl, ⟨[a, b, c], rfl, h1, a, _, rfl, rfl, b, _, rfl, rfl, c, _, rfl, rfl, rfl⟩, rfl⟩) hl
end Go.Proofs.YtaopcacmfhdfkaaGreatDoor.Ev
