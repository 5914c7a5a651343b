/- Rates: the reference's Ways. No condition. -/
import Derived.Test.YtnalbchggjepdaaTc
import Derived.Test.YtnalbchggjepdaaBase
namespace Go.Proofs.Ytnalbchggjepdaa
open Go.RowKit

theorem within_any (lo hi n : Int) (w : World) : Calls Try.prog 55 #[.int .i64 n, .int .i64 lo, .int .i64 hi] w fun e w' => e = .returned (.bool (inB lo hi n)) ∧ w = w' := by
  go_enter Try.func55, Try.ntmps55
  go_wp2
  all_goals go_ret
  all_goals simp [inB, *]
  omega
theorem info3 : (Try.prog.info? 3).map (fun i => (i.zero, i.size, i.bytes)) = some (some (.int .i64 0), 1, 8) := by kernel_rfl
def nats (l : List Nat) : List Int := l.map fun (n : Nat) => (n : Int)
theorem nats_len (l : List Nat) : (nats l).length = l.length := by simp [nats]
/-- Row a of the table, as whole numbers; and its first b entries. -/
def prowI (a : Nat) : List Int := nats (prow a)
theorem prowI_len (a : Nat) : (prowI a).length = a + 1 := by simp [prowI, nats, prow_len]
theorem prowI_get (a b : Nat) (h : b ≤ a) : (ints (prowI a))[b]? = some (.int .i64 (pas a b : Nat)) := by
  simp [ints, prowI, nats, prow_get a b h]
theorem take_snoc (a b : Nat) (h : b ≤ a) : (ints (prowI a)).take b ++ [.int .i64 (pas a b : Nat)] = (ints (prowI a)).take (b + 1) := by
  rw [List.take_add_one, prowI_get a b h]
  rfl
theorem row_end (a : Nat) : (ints (prowI (a + 1))).take (a + 1) ++ [.int .i64 1] = ints (prowI (a + 1)) := by
  have h := take_snoc (a + 1) (a + 1) (Nat.le_refl _)
  rw [pas_self] at h
  rw [show (Value.int IntKind.i64 1) = Value.int IntKind.i64 ((1 : Nat) : Int) from rfl, h, List.take_of_length_le (by simp [ints, prowI_len])]
theorem row_start (a : Nat) : [Value.int IntKind.i64 1] = (ints (prowI a)).take 1 := by
  have h := take_snoc a 0 (Nat.zero_le _)
  rw [pas_zero] at h
  simpa using h
/-- Ways, of any numbers of things up to 50. -/
def waysF (a b : Int) : Int := if 0 ≤ b ∧ b ≤ a then ((pas a.toNat b.toNat : Nat) : Int) else 0
set_option maxRecDepth 100000 in
set_option maxHeartbeats 1000000 in
theorem refWays_any (a : Nat) (b : Int) (w : World) (ha : a ≤ 50) : Calls Try.prog 56 #[.int .i64 (a : Int), .int .i64 b] w fun e w' => e = .returned (.int .i64 (waysF a b)) ∧ Below w.heap.size w w' := by
  obtain ⟨i0, hi0, hz0, hz1, hz2⟩ := info_parts info3
  have HI := Lib.hid hi0
  have HZ0 := Lib.hid hz0
  have HZ1 := Lib.hid hz1
  have HZ2 := Lib.hid hz2
  clear hi0 hz0 hz1 hz2
  go_enter Try.func56, Try.ntmps56
  go_wp2_with fail
  have q0 := rd_new1 w 1 3
  have qb : Below w.heap.size w (w.alloc (.cells #[.int .i64 1] 3)) := below_alloc _ _
  generalize hW0 : w.alloc (.cells #[.int .i64 1] 3) = W0 at q0 qb ⊢
  clear hW0
  go_loopw [5, 6, 7, 8] (fun u5 u6 _ _ wr => ∃ (k : Nat) (A : Option Addr) (c : Nat), k ≤ a ∧ u5 = .slice A (k + 1) c ∧ u6 = .int .i64 k ∧ Hid (Rd wr A (ints (prowI k))) ∧ Below w.heap.size w wr) (fun _ u6 _ _ _ => a - (intOf u6).toNat)
  case atStart => exact ⟨0, _, _, Nat.zero_le _, rfl, rfl, q0, qb⟩
  case round =>
    obtain ⟨k, A, c, hk, rfl, rfl, hr, hb⟩ := hrel
    by_cases hlt : k < a
    · go_wp2_with fail
      obtain ⟨wo, rfl⟩ : ∃ wo : World, wo = wr := ⟨_, rfl⟩
      have h1 := Lib.hid (own_cast (own_one wo (.int .i64 1) 3) rfl (row_start (k + 1)))
      have hbb : Below wo.heap.size wo (wo.alloc (.cells #[.int .i64 1] 3)) := below_alloc _ _
      have hbs : w.heap.size ≤ wo.heap.size := hb.size
      generalize wo.alloc (.cells #[.int .i64 1] 3) = W1 at h1 hbb ⊢
      go_loopw [7, 8] (fun u7 u8 wx => ∃ (j : Nat) (A1 : Option Addr) (c1 : Nat), 1 ≤ j ∧ j ≤ k + 1 ∧ u7 = .slice A1 j c1 ∧ u8 = .int .i64 j ∧ Hid (wx.ownsRow wo.heap.size 3 1 (.slice A1 j c1) j ((ints (prowI (k + 1))).take j)) ∧ Below wo.heap.size wo wx) (fun _ u8 _ => 60 - (intOf u8).toNat)
      case atStart => exact ⟨1, _, _, Nat.le_refl _, by omega, rfl, rfl, h1.out, hbb⟩
      case round =>
        obtain ⟨j, A1, c1, hj1, hjk, rfl, rfl, ho, hbx⟩ := hrel
        by_cases hlt2 : j < k + 1
        · obtain ⟨b0, off, rfl, hbs0, hc⟩ := hr.out.at_ (prowI_get k j (by omega))
          have hc1 := (hbx.cell (p := ⟨b0, off + (j - 1), none⟩) hbs0).trans (hc (j - 1) _ (prowI_get k (j - 1) (by omega)))
          have hc2 := (hbx.cell (p := ⟨b0, off + j, none⟩) hbs0).trans (hc j _ (prowI_get k j (by omega)))
          have hsz := hbx.size
          have hne : b0 ≠ wr.heap.size := by omega
          clear hc
          have hcs := Lib.hid (take_snoc (k + 1) j (by omega))
          have p1 := pas_small k (j - 1) (by omega)
          have p2 := pas_small k j (by omega)
          have hp : ((pas k (j - 1) : Nat) : Int) + ((pas k j : Nat) : Int) = ((pas (k + 1) j : Nat) : Int) := by
            obtain ⟨j', rfl⟩ : ∃ j', j = j' + 1 := ⟨j - 1, by omega⟩
            rw [pas_succ]; simp
          have HP := Lib.hid hp
          clear hp
          generalize pas k (j - 1) = v1 at *
          generalize pas k j = v2 at *
          have e1 : IntKind.i64.wrap ((j : Int) - 1) = (j : Int) - 1 := IntWalk.i64_in _ (by omega)
          have e2 : ((j : Int) - 1).toNat = j - 1 := by omega
          have e3 : IntKind.i64.wrap ((v1 : Int) + (v2 : Int)) = (v1 : Int) + (v2 : Int) := IntWalk.i64_in _ (by omega)
          have b1 : (0 : Int) ≤ (j : Int) - 1 := by omega
          have b2 : (j : Int) - 1 < (k : Int) + 1 := by omega
          have b3 : (j : Int) < (k : Int) + 1 := by omega
          have b4 : (j : Int) ≤ (k : Int) + 1 := by omega
          have b5 : (1 : Int) ≤ (j : Int) := by omega
          have b6 : j ≤ k + 1 := by omega
          have b7 : j ≤ k := by omega
          have b8 : 0 < j := by omega
          have b9 : (j : Int) ≤ (k : Int) := by omega
          go_wp2_with fail
          go_region_held3 (fun w' => w'.cell? ⟨b0, off + (j - 1), none⟩ = some (.int .i64 v1) ∧ w'.cell? ⟨b0, off + j, none⟩ = some (.int .i64 v2)) (first | go_keep | exact ⟨(hby.cell (p := ⟨b0, off + (j - 1), none⟩) hbs0).trans (by simp [*]), (hby.cell (p := ⟨b0, off + j, none⟩) hbs0).trans (by simp [*])⟩) ((refine step_app1 _ rfl (.tmp 22) (.tmp 33) _ (by rfl) wo.heap.size 3 i0 _ 8 Try.underlying36 HI.out HZ0.out HZ1.out HZ2.out rfl _ j ((ints (prowI (k + 1))).take j) (by rfl) _ (.int .i64 (v1 + v2)) (by rfl) ?_ (ho.out.alloc _).drew (by simp [go_sem]) rfl (by unfold maxLen; omega) (by omega) (by first | omega | (simp; omega)); intro A2 c2 wy how hby _))
          have hcs' := hcs.out
          rw [← HP.out] at hcs'
          have HOW := Lib.hid (own_cast how rfl hcs')
          have HBY := Lib.hid ((hbx.alloc hsz _).drew.trans hby)
          clear how hby e1 e2 e3 hcs'
          go_wp2_with fail
          go_roundw
          case rel => exact ⟨j + 1, A2, c2, by omega, by omega, rfl, by go_num, HOW.out, HBY.out⟩
          case measure => simp [intOf]; omega
        · obtain rfl : j = k + 1 := by omega
          have hsz := hbx.size
          go_wp2_with (at_builtin; refine wpList_app1 _ rfl (.tmp 35) (.tmp 36) _ (by rfl) wo.heap.size 3 i0 _ 8 Try.underlying36 HI.out HZ0.out HZ1.out HZ2.out rfl _ (k + 1) ((ints (prowI (k + 1))).take (k + 1)) (by rfl) _ (.int .i64 1) (by rfl) ?_ (ho.out.alloc _) (by simp [go_sem]) rfl (by unfold maxLen; omega) (by omega) (by first | omega | (simp; omega)); intro A2 c2 wy how hby _)
          have HOW := Lib.hid (own_cast how rfl (row_end k))
          have HBY := Lib.hid ((hbx.alloc hsz _).trans hby)
          clear how hby
          go_wp2_with fail
          go_roundw
          case rel => 
            refine ⟨k + 1, A2, c2, by omega, rfl, by go_num, ?_, ?_⟩
            · obtain ⟨A', c', e, h⟩ := rd_of_own HOW.out
              injection e with e1
              subst e1
              exact h.rd
            · exact hb.trans (HBY.out.mono hbs)
          case measure => simp [intOf]; omega
    · obtain rfl : k = a := by omega
      by_cases h0 : 0 ≤ b ∧ b ≤ k
      · have HW := Lib.hid (show waysF k b = ((pas k b.toNat : Nat) : Int) by simp [waysF, h0])
        obtain ⟨b, rfl⟩ := Int.eq_ofNat_of_zero_le h0.1
        obtain ⟨b0, off, rfl, hbs0, hc⟩ := hr.out.at_ (prowI_get k b (by omega))
        have hcb := hc b _ (prowI_get k b (by omega))
        clear hc
        have b1 : b ≤ k := by omega
        have b2 : (b : Int) < (k : Int) + 1 := by omega
        go_wp2_with fail
        go_ret
        exact ⟨by rw [HW.out]; rfl, hb⟩
      · have HW := Lib.hid (show waysF k b = 0 by unfold waysF; rw [if_neg h0])
        have h1 : b < 0 ∨ (k : Int) < b := by omega
        clear h0
        rcases h1 with h1 | h1
        all_goals
          go_wp2_with fail
          all_goals go_ret
          all_goals exact ⟨by rw [HW.out]; rfl, hb⟩
end Go.Proofs.Ytnalbchggjepdaa
