/- Rates: the values that the examples ask for; plain mathematics. No condition. -/
import Derived.Test.YtnalbchggjepdaaVc
import Derived.Test.YtnalbchggjepdaaUd
import Derived.Test.YtnalbchggjepdaaTe
namespace Go.Proofs.Ytnalbchggjepdaa

def fourL : List Int := [30, 10, 20, 20]
def threeL : List Dbl := [⟨3, 5, true⟩, ⟨1, 9, true⟩, ⟨4, 4, false⟩, ⟨2, 6, false⟩]
theorem srt_four : srtI fourL = [10, 20, 20, 30] :=
  ((srtI_perm fourL).trans (show fourL.Perm [10, 20, 20, 30] by decide +kernel)).eq_of_pairwise (fun a b _ _ h1 h2 => Int.le_antisymm h1 h2) (srtI_pair fourL) (by decide +kernel)
theorem thr_four1 : thrF fourL 2 5 = (19, 0) := by
  unfold thrF limF
  rw [srt_four]
  decide +kernel
theorem thr_four2 : thrF fourL 1 6 = (-1, 0) := by decide +kernel
theorem cha_four : chaF fourL 20 = ((4, 5), 0) := by decide +kernel
theorem tail_ex : tailF 1 2 1 2 = (5, 0) := by decide +kernel
theorem differ_ex : differF 2 2 0 2 1 6 = (true, 0) := by decide +kernel
theorem dbl_three : dblE threeL = 0 := by decide +kernel
theorem dsA_three : dsA threeL = [-1, 1, 2, 3, 4] := dst_unique (by decide +kernel) (by intro x; simp [threeL]; omega)
theorem dsB_three : dsB threeL = [-1, 4, 5, 6, 9] := dst_unique (by decide +kernel) (by intro x; simp [threeL]; omega)
theorem fro_three : froR threeL = [⟨1, 9, 0, 1⟩, ⟨3, 9, 1, 0⟩] := by
  rw [froR, if_pos dbl_three, show froF threeL = fro (isort ltP (ptsT threeL (dsA threeL) (dsB threeL))) from rfl, dsA_three, dsB_three]
  kernel_rfl
end Go.Proofs.Ytnalbchggjepdaa
