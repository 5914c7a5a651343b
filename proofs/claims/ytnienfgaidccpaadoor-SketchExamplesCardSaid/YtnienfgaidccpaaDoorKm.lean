/- Sketch: bits.OnesCount16. No condition. -/
import Derived.Test.YtnienfgaidccpaaDoorKl
import Derived.Deep.QuietTactic
import Derived.ProofKit
import Derived.Laws.BitsAllLaws
namespace Go.Proofs.YtnienfgaidccpaaDoor
open Go.RowKit

set_option maxHeartbeats 4000000 in
set_option maxRecDepth 100000 in
theorem ones16_any (x : Int) (w : World) (h0 : 0 ≤ x) (h1 : x ≤ 65535) :
    Calls Tryd.prog 63 #[.int .u16 x] w fun e w' => e = .returned (.int .i64 (Lib.onesCount (x / 256).toNat + Lib.onesCount (x % 256).toNat : Nat)) ∧ Below w.heap.size w w' := by
  have h2 : 0 ≤ x / 256 := by omega
  have h3 : x / 256 ≤ 255 := by omega
  have h4 : 0 ≤ x % 256 := by omega
  have h5 : x % 256 ≤ 255 := by omega
  have h6 : x / 256 % 65536 = x / 256 := by omega
  have h7 : bits .and .u16 x 255 = x % 256 := by
    rw [u16_and x 255 h0 (by omega) (by decide) (by decide)]
    have : x.toNat &&& (255 : Int).toNat = x.toNat % 256 := nat_mask8 _
    rw [this]
    omega
  have o1 := Lib.onesCount_le8 ⟨(x / 256).toNat, by omega⟩
  have o2 := Lib.onesCount_le8 ⟨(x % 256).toNat, by omega⟩
  have p1 : Lib.pop8 (x / 256) = (Lib.onesCount (x / 256).toNat : Int) := by
    have e := Lib.pop8_eq ⟨(x / 256).toNat, by omega⟩
    simp only at e
    rw [← e]; congr 1; omega
  have p2 : Lib.pop8 (x % 256) = (Lib.onesCount (x % 256).toNat : Int) := by
    have e := Lib.pop8_eq ⟨(x % 256).toNat, by omega⟩
    simp only at e
    rw [← e]; congr 1; omega
  simp only at o1 o2
  go_enter Tryd.func63, Tryd.ntmps63
  go_wp2
  go_region
  all_goals go_wp2
  all_goals go_ret
  all_goals
    refine ⟨?_, (Below.refl _ _).drew⟩
    simp [Act.put]
    rw [IntKind.wrap_u8', Int.emod_eq_of_lt (by omega) (by omega)]
    rw [IntKind.wrap_i64]; omega
end Go.Proofs.YtnienfgaidccpaaDoor
