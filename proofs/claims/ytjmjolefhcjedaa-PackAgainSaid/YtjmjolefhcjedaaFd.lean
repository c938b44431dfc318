/- The statements of ffd, walked. -/
import Derived.Test.YtjmjolefhcjedaaFc
namespace Go.Proofs.Ytjmjolefhcjedaa.Vc
open Go Go.RowKit Go.Proofs.Try
set_option maxRecDepth 20000

instance (p : Plan) (x : Place) : Decidable (x.sp p) := by unfold Place.sp; infer_instance
instance (p : Plan) (x : Place) : Decidable (x.ok p) := by unfold Place.ok; infer_instance
def exF : Plan := ⟨4, 3#32, []⟩
def exFl : List Want := [⟨1, 3⟩, ⟨2, 3⟩, ⟨3, 2⟩]
theorem exF_right : exF.right :=
  ⟨by decide, by decide, by decide, by decide, by decide +kernel, by decide, by decide +kernel, by decide +kernel, by decide +kernel⟩
theorem exF_srt : srtS exFl = exFl := (srtS_uniq (List.Perm.refl _) (by unfold exFl leD; simp)).symm
theorem exF_chk : chkW 4 exFl = 0 := by kernel_rfl
end Go.Proofs.Ytjmjolefhcjedaa.Vc

namespace Go.Proofs.Ytjmjolefhcjedaa.Vc
open Go Go.RowKit Go.Proofs.Try
set_option maxRecDepth 20000

theorem cut_eq (l : List Want) (k : Nat) : ((l.map Want.tv).take (min (((l.map Want.tv).length : Nat) : Int) (k : Nat)).toNat).drop 0 = (l.take k).map Want.tv := by
  rw [List.drop_zero, ← List.map_take, List.length_map]
  congr 1
  rcases Nat.le_total l.length k with h | h
  · rw [List.take_of_length_le (by omega), List.take_of_length_le h]
  · congr 1; omega
end Go.Proofs.Ytjmjolefhcjedaa.Vc

namespace Go.Proofs.Ytjmjolefhcjedaa.Vc
open Go Go.RowKit Go.Proofs.Try
set_option maxRecDepth 20000

theorem planZ_leF : leX planZ (⟨0, 0#32, []⟩ : Plan).tv := by
  repeat' (conv => whnf
           first | exact rfl | exact leX_refl _ | exact trivial | exact And.intro rfl rfl | exact leL_refl _ | exact Two.l ⟨rfl, rfl⟩ | refine Two.r ⟨rfl, ?_⟩ | refine And.intro ?_ ?_ | fail)
  all_goals exact leX_refl _
open Classical in
theorem s31zF : Spec prog 31 [planZ, planZ] [] (tB true) [] := by
  have h := s31 ⟨0, 0#32, []⟩ ⟨0, 0#32, []⟩ ⟨by simp, by simp⟩ ⟨by simp, by simp⟩
  rw [decide_eq_true rfl] at h
  exact Spec_arg h (And.intro planZ_leF (And.intro planZ_leF trivial))
open Classical in
theorem s31F (p : Plan) (hp : p.light) : Spec prog 31 [p.tv, p.tv] [] (tB true) [] := by
  have h := s31 p p hp hp
  rwa [decide_eq_true rfl] at h
open Classical in
theorem s36F (l : List Want) (hl : l.length ≤ 1000) : Spec prog 36 [.s 2 (l.map Want.tv), .s 2 (l.map Want.tv)] [] (tB true) [] := by
  have h := s36 l l (by omega) (by omega)
  rwa [decide_eq_true rfl] at h
theorem s46F (x : Place) (hx : x.pieces.length ≤ 20) : Spec prog 46 [x.tv, x.tv] [] (tB true) [] := by
  have h := s46 x x hx hx
  rwa [decide_eq_true rfl] at h
end Go.Proofs.Ytjmjolefhcjedaa.Vc
