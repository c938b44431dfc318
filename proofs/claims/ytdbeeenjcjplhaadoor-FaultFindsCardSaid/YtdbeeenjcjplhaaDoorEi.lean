/- FaultFinds, as the row wants it. -/
import Derived.Test.YtdbeeenjcjplhaaDoorEh
import Derived.Test.YtdbeeenjcjplhaaDoorEg
namespace Go.Proofs.YtdbeeenjcjplhaaDoor.Vc
open Go Go.RowKit Go.Proofs Go.Proofs.Tryd
theorem law5 (l : List ActF) (h : l.length ≤ 9223372036854775807 ∧ ∀ x ∈ l, I64 x.a ∧ I64 x.c) (c : Int) (_hc : I64 c) : Spec prog 5 [.s 4 (l.map ActF.tv), tI c] [] (tB true) [] :=
  s5 l h.1 c
end Go.Proofs.YtdbeeenjcjplhaaDoor.Vc
