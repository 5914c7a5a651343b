/- Changes: the iterator over the changes between two times. -/
import Derived.Test.YtalmeokljamhdaaLc
import Derived.RangeFuncNested
import Derived.RangeFuncBound
import Derived.RangeFuncCalls
import Derived.RangeFuncLeaves
import Derived.Shelf.Abstract
import Derived.Shelf.RegionOpen
import Derived.OwnWalkIn
import Derived.TacticsInMore
import Derived.LoopNIn
import Derived.LoopIn
import Derived.BigGuardIn
namespace Go.Proofs.Ytalmeokljamhdaa
open Go.RowKit Go.Shelf
attribute [local go_sem] Oper.semAt_some

def betW (a z : Int) : List Chg → List Chg
  | [] => []
  | c :: l => if z < c.time then [] else if a < c.time then c :: betW a z l else betW a z l
theorem betW_stop {a z : Int} {c : Chg} {t l : List Chg} (ht : t = c :: l) (h : z < c.time) : betW a z t = [] := by subst ht; rw [betW, if_pos h]
theorem betW_yes {a z : Int} {c : Chg} {t l : List Chg} (ht : t = c :: l) (h : ¬ z < c.time) (h2 : a < c.time) : betW a z t = c :: betW a z l := by subst ht; rw [betW, if_neg h, if_pos h2]
theorem betW_no {a z : Int} {c : Chg} {t l : List Chg} (ht : t = c :: l) (h : ¬ z < c.time) (h2 : ¬ a < c.time) : betW a z t = betW a z l := by subst ht; rw [betW, if_neg h, if_neg h2]
theorem betW_len (a z : Int) : ∀ l : List Chg, (betW a z l).length ≤ l.length
  | [] => Nat.le_refl _
  | c :: l => by
    rw [betW]
    split
    · exact Nat.zero_le _
    · split
      · simp; exact betW_len a z l
      · simp; have := betW_len a z l; omega
theorem abide_alloc {β : Type} {B : Nat} {J : β → World → Prop} (h : AbidesFrom B J) {s : β} {W : World} (o : Obj) (hs : J s W) : J s (W.alloc o) :=
  h s W _ none hs (World.grownBy_alloc W o none) (by simp)

set_option maxRecDepth 100000 in
set_option maxHeartbeats 2000000 in
theorem betw1_in (n : Nat) (hn : 1 ≤ n) (lp Bl Bz Ba : Nat) (A : Option Addr) (l : List Chg) (nn c : Nat) (a z : Int) (w0 W : World) (J Jx : List Chg → World → Prop)
    (hr : Rd w0 A (flat cenc l)) (hnn : nn = l.length) (hl : nn ≤ 1000) (hBl : Bl < w0.heap.size) (hBz : Bz < w0.heap.size) (hBa : Ba < w0.heap.size)
    (cl : w0.cell? ⟨Bl, 0, none⟩ = some (.slice A nn c)) (cz : w0.cell? ⟨Bz, 0, none⟩ = some (.int .i64 z)) (ca : w0.cell? ⟨Ba, 0, none⟩ = some (.int .i64 a))
    (hb0 : Below w0.heap.size w0 W) (hJ : AbidesFrom W.heap.size J)
    (hY : ∀ pre (x : Chg) W1, x ∈ l → J pre W1 → pre.length < l.length → YieldAt Fence.wide (n - 1) Try.prog lp #[.agg #[.int .i64 x.time, .int .i64 x.person, .bool x.on]] W1 fun e W' =>
      (e = .returned (.bool true) ∧ J (pre ++ [x]) W' ∧ Below w0.heap.size W1 W') ∨ (e = .returned (.bool false) ∧ Jx (pre ++ [x]) W')) (h0 : J [] W) :
    CallsIn Fence.wide n Try.prog 81 #[.func (.yield lp) #[] #[], .pointer (some ⟨Bl, 0, none⟩), .pointer (some ⟨Bz, 0, none⟩), .pointer (some ⟨Ba, 0, none⟩)] W fun e W' => (∃ v, e = .returned v) ∧
      ((∃ ys, ys = betW a z l ∧ J ys W') ∨ (∃ pre, True ∧ Jx pre W')) := by
  have HR := Lib.hid hr
  have HN := Lib.hid hnn
  have HY := Lib.hid hY
  have HJ := Lib.hid hJ
  have HJ0 := Lib.hid h0
  clear hr hnn hY hJ h0
  have cl' := (hb0.cell (p := ⟨Bl, 0, none⟩) hBl).trans cl
  have HCZ := Lib.hid cz
  have HCA := Lib.hid ca
  clear cl cz ca
  refine callsIn_of_wp Try.func81 rfl trivial ?_ rfl
  simp only [Try.ntmps81, List.size_toArray, List.length_cons, List.length_nil, Nat.reduceAdd, Nat.reduceSub, Array.replicate_succ, Array.replicate_zero, List.push_toArray, List.append_toArray, List.nil_append, List.cons_append]
  gi_wp2
  gi_loopw [9] (fun i wr => ∃ (k : Nat) (pre : List Chg), k ≤ nn ∧ i = .int .i64 k ∧ Hid (J pre wr) ∧ Below w0.heap.size w0 wr ∧ Hid (betW a z l = pre ++ betW a z (l.drop k)) ∧ Hid (pre.length ≤ k)) (fun i _ => nn - (intOf i).toNat)
  case atStart => exact ⟨0, [], Nat.zero_le _, rfl, HJ0.out, hb0, rfl, Nat.le_refl _⟩
  case round =>
    obtain ⟨k, pre, hk, rfl, hj, hb, hq, hpl⟩ := hrel
    have cz' := (hb.cell (p := ⟨Bz, 0, none⟩) hBz).trans HCZ.out
    have ca' := (hb.cell (p := ⟨Ba, 0, none⟩) hBa).trans HCA.out
    have hs := hb.size
    have hBz' : Bz < wr.heap.size := by omega
    have hBa' : Ba < wr.heap.size := by omega
    by_cases hlt : k < nn
    · have hlt' : k < l.length := by rw [← HN.out]; exact hlt
      obtain ⟨b, off, rfl, hbs, hc0, hc1, hc2⟩ := chg_at HR.out hb hlt'
      have HD := Lib.hid (List.drop_eq_getElem_cons hlt')
      have HM := Lib.hid (List.getElem_mem hlt')
      generalize l[k] = g at hc0 hc1 hc2 HD HM
      rcases g with ⟨gt, gp, go⟩
      simp only at hc0 hc1 hc2
      have HA := Lib.hid (abide_alloc HJ.out (.cells #[.int .i64 gt, .int .i64 gp, .bool go] 62) hj.out)
      by_cases h1 : z < gt
      · have hst := Lib.hid (betW_stop (a := a) HD.out h1)
        have hd1 : decide (z < gt) = true := by simpa using h1
        gi_wp2
        all_goals first
          | (exact absurd ‹some undef = some (Value.bool _)› (by simp [undef]))
          | (refine ⟨fun _ h => (by cases h), ?_⟩
             gi_wp2
             refine bodyPost_ret (results_none rfl _ _ _) rfl ?_
             exact ⟨⟨_, rfl⟩, .inl ⟨pre, by rw [hq.out, hst.out, List.append_nil], HA.out⟩⟩)
      · have hd1 : decide (z < gt) = false := by simpa using h1
        by_cases h2 : a < gt
        · have hd2 : decide (a < gt) = true := by simpa using h2
          have hst := Lib.hid (betW_yes HD.out h1 h2)
          obtain ⟨fn, tmps, assign, body, hy, hR⟩ := HY.out pre ⟨gt, gp, go⟩ _ HM.out HA.out (by have := hpl.out; omega)
          dsimp only at hy
          gi_wp2
          refine hR.mono ?_
          rintro e W3 (⟨rfl, hJ3, hk3⟩ | ⟨rfl, hJx3⟩)
          · have HJ3 := Lib.hid hJ3
            clear hJ3
            gi_wp2
            go_roundw
            case rel => exact ⟨k + 1, pre ++ [(⟨gt, gp, go⟩ : Chg)], by omega, by go_num, HJ3.out, (hb.alloc hb.size _).trans hk3, (by unfold Hid; rw [hq.out, hst.out, List.append_assoc]; rfl), (by unfold Hid; have := hpl.out; simp; omega)⟩
            case measure => simp [intOf]; omega
          · have HJ3 := Lib.hid hJx3
            clear hJx3
            gi_wp2
            refine bodyPost_ret (results_none rfl _ _ _) rfl ?_
            exact ⟨⟨_, rfl⟩, .inr ⟨_, trivial, HJ3.out⟩⟩
        · have hd2 : decide (a < gt) = false := by simpa using h2
          have hst := Lib.hid (betW_no HD.out h1 h2)
          gi_wp2
          refine ⟨fun _ h => (by cases h), ?_⟩
          gi_wp2
          go_roundw
          case rel => exact ⟨k + 1, pre, by omega, by go_num, HA.out, hb.alloc hb.size _, (by unfold Hid; rw [hq.out, hst.out]), (by unfold Hid; have := hpl.out; omega)⟩
          case measure => simp [intOf]; omega
    · have hfin : Hid (betW a z (l.drop k) = []) := by
        unfold Hid; rw [List.drop_eq_nil_of_le (by rw [← HN.out]; omega)]; rfl
      gi_wp2
      go_end0
      exact ⟨⟨_, rfl⟩, .inl ⟨pre, by rw [hq.out, hfin.out, List.append_nil], hj.out⟩⟩

set_option maxRecDepth 100000 in
set_option maxHeartbeats 2000000 in
theorem vals1_in (n : Nat) (hn : 1 ≤ n) (lp Bl : Nat) (A : Option Addr) (l : List Chg) (nn c : Nat) (w0 W : World) (J Jx : List Chg → World → Prop)
    (hr : Rd w0 A (flat cenc l)) (hnn : nn = l.length) (hl : nn ≤ 1000) (hBl : Bl < w0.heap.size)
    (cl : w0.cell? ⟨Bl, 0, none⟩ = some (.slice A nn c))
    (hb0 : Below w0.heap.size w0 W) (hJ : AbidesFrom W.heap.size J)
    (hY : ∀ pre (x : Chg) W1, x ∈ l → J pre W1 → pre.length < l.length → YieldAt Fence.wide (n - 1) Try.prog lp #[.agg #[.int .i64 x.time, .int .i64 x.person, .bool x.on]] W1 fun e W' =>
      (e = .returned (.bool true) ∧ J (pre ++ [x]) W' ∧ Below w0.heap.size W1 W') ∨ (e = .returned (.bool false) ∧ Jx (pre ++ [x]) W')) (h0 : J [] W) :
    CallsIn Fence.wide n Try.prog 84 #[.func (.yield lp) #[] #[], .pointer (some ⟨Bl, 0, none⟩)] W fun e W' => (∃ v, e = .returned v) ∧
      ((∃ ys, ys = l ∧ J ys W') ∨ (∃ pre, True ∧ Jx pre W')) := by
  have HR := Lib.hid hr
  have HN := Lib.hid hnn
  have HY := Lib.hid hY
  have HJ := Lib.hid hJ
  have HJ0 := Lib.hid h0
  clear hr hnn hY hJ h0
  have cl' := (hb0.cell (p := ⟨Bl, 0, none⟩) hBl).trans cl
  clear cl
  refine callsIn_of_wp Try.func84 rfl trivial ?_ rfl
  simp only [Try.ntmps84, List.size_toArray, List.length_cons, List.length_nil, Nat.reduceAdd, Nat.reduceSub, Array.replicate_succ, Array.replicate_zero, List.push_toArray, List.append_toArray, List.nil_append, List.cons_append]
  gi_wp2
  gi_loopw [7] (fun i wr => ∃ (k : Nat), k ≤ nn ∧ i = .int .i64 k ∧ Hid (J (l.take k) wr) ∧ Below w0.heap.size w0 wr) (fun i _ => nn - (intOf i).toNat)
  case atStart => exact ⟨0, Nat.zero_le _, rfl, HJ0.out, hb0⟩
  case round =>
    obtain ⟨k, hk, rfl, hj, hb⟩ := hrel
    by_cases hlt : k < nn
    · have hlt' : k < l.length := by rw [← HN.out]; exact hlt
      obtain ⟨b, off, rfl, hbs, hc0, hc1, hc2⟩ := chg_at HR.out hb hlt'
      have HM := Lib.hid (List.getElem_mem hlt')
      have HT := Lib.hid (take_snocC l hlt')
      generalize l[k] = g at hc0 hc1 hc2 HM HT
      rcases g with ⟨gt, gp, go⟩
      simp only at hc0 hc1 hc2
      have HA := Lib.hid (abide_alloc HJ.out (.cells #[.int .i64 gt, .int .i64 gp, .bool go] 62) hj.out)
      obtain ⟨fn, tmps, assign, body, hy, hR⟩ := HY.out (l.take k) ⟨gt, gp, go⟩ _ HM.out HA.out (by rw [List.length_take]; omega)
      dsimp only at hy
      gi_wp2
      refine hR.mono ?_
      rintro e W3 (⟨rfl, hJ3, hk3⟩ | ⟨rfl, hJx3⟩)
      · rw [← HT.out] at hJ3
        have HJ3 := Lib.hid hJ3
        clear hJ3
        gi_wp2
        go_roundw
        case rel => exact ⟨k + 1, by omega, by go_num, HJ3.out, (hb.alloc hb.size _).trans hk3⟩
        case measure => simp [intOf]; omega
      · have HJ3 := Lib.hid hJx3
        clear hJx3
        gi_wp2
        refine bodyPost_ret (results_none rfl _ _ _) rfl ?_
        exact ⟨⟨_, rfl⟩, .inr ⟨_, trivial, HJ3.out⟩⟩
    · have hfin : Hid (l.take k = l) := List.take_of_length_le (by rw [← HN.out]; omega)
      rw [hfin.out] at hj
      gi_wp2
      go_end0
      exact ⟨⟨_, rfl⟩, .inl ⟨l, rfl, hj.out⟩⟩

/-- A change about a person. -/
abbrev PChg := { c : Chg // 0 ≤ c.person ∧ c.person ≤ 63 }
def encP (x : PChg) : Array Value := #[.agg #[.int .i64 x.1.time, .int .i64 x.1.person, .bool x.1.on]]
theorem betw_stops (n : Nat) (hn : 1 ≤ n) (Bl Bz Ba : Nat) (A : Option Addr) (l : List Chg) (nn c : Nat) (a z : Int) (w0 : World)
    (hr : Rd w0 A (flat cenc l)) (hnn : nn = l.length) (hl : nn ≤ 1000) (hok : ∀ c ∈ l, 0 ≤ c.person ∧ c.person ≤ 63) (hBl : Bl < w0.heap.size) (hBz : Bz < w0.heap.size) (hBa : Ba < w0.heap.size)
    (cl : w0.cell? ⟨Bl, 0, none⟩ = some (.slice A nn c)) (cz : w0.cell? ⟨Bz, 0, none⟩ = some (.int .i64 z)) (ca : w0.cell? ⟨Ba, 0, none⟩ = some (.int .i64 a)) :
    SeqStopsK Fence.wide n Try.prog 81 #[.pointer (some ⟨Bl, 0, none⟩), .pointer (some ⟨Bz, 0, none⟩), .pointer (some ⟨Ba, 0, none⟩)] encP (Below w0.heap.size) (fun ys => ys.map (·.1) = betW a z l) (fun _ => True) l.length w0 := by
  intro lp J Jx W hW hJ _ hY h0
  refine (betw1_in n hn lp Bl Bz Ba A l nn c a z w0 W (fun pre W => ∃ q : List PChg, q.map (·.1) = pre ∧ J q W) (fun pre W => ∃ q : List PChg, q.map (·.1) = pre ∧ Jx q W) hr hnn hl hBl hBz hBa cl cz ca hW ?_ ?_ ⟨[], rfl, h0⟩).mono ?_
  · rintro s X Y row ⟨q, hq, hj⟩ hg hrow
    exact ⟨q, hq, hJ q X Y row hj hg hrow⟩
  · rintro pre x W1 hx ⟨q, rfl, hj⟩ hlen
    obtain ⟨fn, tmps, assign, body, hy, hR⟩ := hY q ⟨x, hok x hx⟩ W1 hj (by simpa using hlen)
    refine ⟨fn, tmps, assign, body, hy, hR.mono ?_⟩
    rintro e W' (⟨he, h1, h2⟩ | ⟨he, h1⟩)
    · exact .inl ⟨he, ⟨q ++ [⟨x, hok x hx⟩], by simp, h1⟩, h2⟩
    · exact .inr ⟨he, q ++ [⟨x, hok x hx⟩], by simp, h1⟩
  · rintro e W' ⟨he, ⟨ys, rfl, q, hq, hj⟩ | ⟨pre, _, q, hq, hj⟩⟩
    · exact ⟨he, .inl ⟨q, hq, hj⟩⟩
    · exact ⟨he, .inr ⟨q, trivial, hj⟩⟩
theorem vals_stops (n : Nat) (hn : 1 ≤ n) (Bl : Nat) (A : Option Addr) (l : List Chg) (nn c : Nat) (w0 : World)
    (hr : Rd w0 A (flat cenc l)) (hnn : nn = l.length) (hl : nn ≤ 1000) (hok : ∀ c ∈ l, 0 ≤ c.person ∧ c.person ≤ 63) (hBl : Bl < w0.heap.size)
    (cl : w0.cell? ⟨Bl, 0, none⟩ = some (.slice A nn c)) :
    SeqStopsK Fence.wide n Try.prog 84 #[.pointer (some ⟨Bl, 0, none⟩)] encP (Below w0.heap.size) (fun ys => ys.map (·.1) = l) (fun _ => True) l.length w0 := by
  intro lp J Jx W hW hJ _ hY h0
  refine (vals1_in n hn lp Bl A l nn c w0 W (fun pre W => ∃ q : List PChg, q.map (·.1) = pre ∧ J q W) (fun pre W => ∃ q : List PChg, q.map (·.1) = pre ∧ Jx q W) hr hnn hl hBl cl hW ?_ ?_ ⟨[], rfl, h0⟩).mono ?_
  · rintro s X Y row ⟨q, hq, hj⟩ hg hrow
    exact ⟨q, hq, hJ q X Y row hj hg hrow⟩
  · rintro pre x W1 hx ⟨q, rfl, hj⟩ hlen
    obtain ⟨fn, tmps, assign, body, hy, hR⟩ := hY q ⟨x, hok x hx⟩ W1 hj (by simpa using hlen)
    refine ⟨fn, tmps, assign, body, hy, hR.mono ?_⟩
    rintro e W' (⟨he, h1, h2⟩ | ⟨he, h1⟩)
    · exact .inl ⟨he, ⟨q ++ [⟨x, hok x hx⟩], by simp, h1⟩, h2⟩
    · exact .inr ⟨he, q ++ [⟨x, hok x hx⟩], by simp, h1⟩
  · rintro e W' ⟨he, ⟨ys, rfl, q, hq, hj⟩ | ⟨pre, _, q, hq, hj⟩⟩
    · exact ⟨he, .inl ⟨q, hq, hj⟩⟩
    · exact ⟨he, .inr ⟨q, trivial, hj⟩⟩
end Go.Proofs.Ytalmeokljamhdaa
