/- Iris: the turns in their order; the distance of two codes. No condition. -/
import Derived.Test.YtmjbbihbcbhaoaaIb
import Derived.Deep.CutRange
namespace Go.Proofs.Ytmjbbihbcbhaoaa
open Go.RowKit Go.Shelf
attribute [local go_sem] Oper.semAt_some

/-- The turns in their order. -/
def ordS (k : Nat) : List Int := if k = 0 then [0] else [(k : Int), -(k : Int)]
def ordL : Nat → List Int
  | 0 => []
  | k + 1 => ordL k ++ ordS k
theorem ordL_len : ∀ k, (ordL k).length ≤ 2 * k
  | 0 => Nat.le_refl _
  | k + 1 => by
    have := ordL_len k
    rw [ordL, List.length_append]
    have h : (ordS k).length ≤ 2 := by unfold ordS; split <;> simp
    omega
set_option maxRecDepth 100000 in
set_option maxHeartbeats 8000000 in
theorem order_gen (n : Nat) (hn : 1 ≤ n) (lp Bt tn : Nat) (Wd : World) (J Jx : List Int → World → Prop) (ht : tn ≤ 7) (c0 : Wd.cell? ⟨Bt, 0, none⟩ = some (.int .i64 (tn : Nat)))
    (hY : ∀ pre (x : Int) W1, (-7 ≤ x ∧ x ≤ 7) → J pre W1 → pre.length < 100 → YieldAt Fence.wide (n - 1) Try.prog lp #[.int .i64 x] W1 fun e W' =>
      (e = .returned (.bool true) ∧ J (pre ++ [x]) W') ∨ (e = .returned (.bool false) ∧ Jx (pre ++ [x]) W')) (h0 : J [] Wd) :
    CallsIn Fence.wide n Try.prog 29 #[.func (.yield lp) #[] #[], .pointer (some ⟨Bt, 0, none⟩)] Wd fun e W' => (∃ v, e = .returned v) ∧
      (J (ordL (tn + 1)) W' ∨ (∃ pre, True ∧ Jx pre W')) := by
  have HY := Lib.hid hY
  have HJ0 := Lib.hid h0
  clear hY h0
  obtain ⟨m, hm⟩ : ∃ m, m = tn + 1 := ⟨_, rfl⟩
  rw [← hm]
  have z1 : IntKind.i64.wrap ((tn : Int) + 1) = (m : Int) := by rw [show (tn : Int) + 1 = (m : Int) by omega]; exact IntWalk.i64_in _ (by omega)
  have hm8 : m ≤ 8 := by omega
  clear hm
  refine callsIn_of_wp Try.func29 rfl trivial ?_ rfl
  simp only [Try.ntmps29, List.size_toArray, List.length_cons, List.length_nil, Nat.reduceAdd, Nat.reduceSub, Array.replicate_succ, Array.replicate_zero, List.push_toArray, List.append_toArray, List.nil_append, List.cons_append]
  gi_wp2
  gi_loopw [6] (fun i wr => ∃ (k : Nat), k ≤ m ∧ i = .int .i64 ((k : Nat) : Int) ∧ Hid (J (ordL k) wr)) (fun i _ => m - (intOf i).toNat)
  case atStart => exact ⟨0, Nat.zero_le _, by go_num, HJ0.out⟩
  case round =>
    obtain ⟨k, hk, rfl, hj⟩ := hrel
    clear c0
    by_cases hlt : k < m
    · have hki : (k : Int) < (m : Int) := by omega
      have hkl := ordL_len k
      obtain ⟨fn, tmps, assign, body, hy, hR⟩ := HY.out (ordL k) (k : Int) wr (by omega) hj.out (by omega)
      by_cases hk0 : k = 0
      · have hkz : ¬ (0 : Int) < (k : Int) := by omega
        have HT := Lib.hid (show ordL (k + 1) = ordL k ++ [(k : Int)] by rw [ordL, ordS, if_pos hk0, hk0]; rfl)
        clear hkl hk0
        gi_wp2
        refine hR.mono ?_
        rintro e W3 (⟨rfl, hJ3⟩ | ⟨rfl, hJx3⟩)
        · have HJ3 := Lib.hid hJ3
          clear hJ3
          gi_wp2
          refine ⟨fun _ h => (by cases h), ?_⟩
          gi_wp2
          go_roundw
          case rel => exact ⟨k + 1, by omega, by go_num, by unfold Hid; rw [HT.out]; exact HJ3.out⟩
          case measure => simp [intOf]; omega
        · have HJ3 := Lib.hid hJx3
          clear hJx3
          gi_wp2
          all_goals first
            | exact absurd (by assumption : some undef = some (Value.bool _)) (by simp [undef])
            | (refine ⟨fun _ h => (by cases h), ?_⟩
               gi_wp2
               refine bodyPost_ret (results_none rfl _ _ _) rfl ?_
               exact ⟨⟨_, rfl⟩, .inr ⟨_, trivial, HJ3.out⟩⟩)
      · have hkz : (0 : Int) < (k : Int) := by omega
        have HT := Lib.hid (show ordL (k + 1) = (ordL k ++ [(k : Int)]) ++ [-(k : Int)] by rw [ordL, ordS, if_neg hk0, List.append_assoc]; rfl)
        have zn : IntKind.i64.wrap (-(k : Int)) = -(k : Int) := IntWalk.i64_in _ (by omega)
        have HL := Lib.hid (show (ordL k ++ [(k : Int)]).length < 100 by rw [List.length_append, List.length_singleton]; omega)
        have HK7 := Lib.hid (show -7 ≤ -(k : Int) ∧ -(k : Int) ≤ 7 by omega)
        clear hkl hk0
        gi_wp2
        refine hR.mono ?_
        rintro e W3 (⟨rfl, hJ3⟩ | ⟨rfl, hJx3⟩)
        · have HJ3 := Lib.hid hJ3
          clear hJ3 hy hR
          obtain ⟨fn, tmps, assign, body, hy, hR⟩ := HY.out _ (-(k : Int)) W3 HK7.out HJ3.out HL.out
          gi_wp2
          refine hR.mono ?_
          rintro e W4 (⟨rfl, hJ4⟩ | ⟨rfl, hJx4⟩)
          · have HJ4 := Lib.hid hJ4
            clear hJ4
            gi_wp2
            go_roundw
            case rel => exact ⟨k + 1, by omega, by go_num, by unfold Hid; rw [HT.out]; exact HJ4.out⟩
            case measure => simp [intOf]; omega
          · have HJ4 := Lib.hid hJx4
            clear hJx4
            gi_wp2
            refine bodyPost_ret (results_none rfl _ _ _) rfl ?_
            exact ⟨⟨_, rfl⟩, .inr ⟨_, trivial, HJ4.out⟩⟩
        · have HJ3 := Lib.hid hJx3
          clear hJx3
          gi_wp2
          all_goals first
            | exact absurd (by assumption : some undef = some (Value.bool _)) (by simp [undef])
            | (refine ⟨fun _ h => (by cases h), ?_⟩
               gi_wp2
               refine bodyPost_ret (results_none rfl _ _ _) rfl ?_
               exact ⟨⟨_, rfl⟩, .inr ⟨_, trivial, HJ3.out⟩⟩)
    · have hkm : k = m := by omega
      have hneg : ¬ (k : Int) < (m : Int) := by omega
      have HE := Lib.hid (show J (ordL m) wr by rw [← hkm]; exact hj.out)
      clear hkm
      gi_wp2
      go_end0
      exact ⟨⟨_, rfl⟩, .inl HE.out⟩
/-- A turn. -/
abbrev TT := { t : Int // -7 ≤ t ∧ t ≤ 7 }
def encT (x : TT) : Array Value := #[.int .i64 x.1]
theorem order_stops (n : Nat) (hn : 1 ≤ n) (Bt tn : Nat) (w0 : World) (ht : tn ≤ 7) (hBt : Bt < w0.heap.size) (c0 : w0.cell? ⟨Bt, 0, none⟩ = some (.int .i64 (tn : Nat))) :
    SeqStopsK Fence.wide n Try.prog 29 #[.pointer (some ⟨Bt, 0, none⟩)] encT (fun _ _ => True) (fun ys => ys.map (·.1) = ordL (tn + 1)) (fun _ => True) 100 w0 := by
  intro lp J Jx Wd hW hJ _ hY h0
  refine (order_gen n hn lp Bt tn Wd (fun pre W1 => ∃ q : List TT, q.map (·.1) = pre ∧ J q W1) (fun pre W1 => ∃ q : List TT, q.map (·.1) = pre ∧ Jx q W1) ht
    ((hW.cell (p := ⟨Bt, 0, none⟩) hBt).trans c0) ?_ ⟨[], rfl, h0⟩).mono ?_
  · rintro pre x W1 hx ⟨q, rfl, hj⟩ hlen
    obtain ⟨fn, tmps, assign, body, hy, hR⟩ := hY q ⟨x, hx⟩ W1 hj (by simpa using hlen)
    refine ⟨fn, tmps, assign, body, hy, hR.mono ?_⟩
    rintro e W' (⟨he, h1, h2⟩ | ⟨he, h1⟩)
    · exact .inl ⟨he, q ++ [⟨x, hx⟩], by simp, h1⟩
    · exact .inr ⟨he, q ++ [⟨x, hx⟩], by simp, h1⟩
  · rintro e W' ⟨he, ⟨q, hq, hj⟩ | ⟨pre, _, q, hq, hj⟩⟩
    · exact ⟨he, .inl ⟨q, hq, hj⟩⟩
    · exact ⟨he, .inr ⟨q, trivial, hj⟩⟩
theorem orders_any (t : Int) (w : World) :
    Calls Try.prog 20 #[.int .i64 t] w fun e w' => e = .returned (.func (.func 29) #[] #[.pointer (some ⟨w.heap.size, 0, none⟩)]) ∧ w.alloc (.cells #[.int .i64 t] 3) = w' := by
  go_enter Try.func20, Try.ntmps20
  go_wp2_with fail
  go_ret
  exact ⟨rfl, rfl⟩
end Go.Proofs.Ytmjbbihbcbhaoaa
