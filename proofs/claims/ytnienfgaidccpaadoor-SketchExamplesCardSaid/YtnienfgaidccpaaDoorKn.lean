/- Sketch: Same; Open of the program and of the reference. No condition. -/
import Derived.Test.YtnienfgaidccpaaDoorKk
namespace Go.Proofs.YtnienfgaidccpaaDoor
open Go.RowKit Go.Shelf
attribute [local go_sem] Oper.semAt_some

def opnF (c : Kd) (h t : List Nat) (i : Nat) : Option (Nat × Nat) := c.dec (t.getD i 0 ^^^ h.getD i 0)
theorem opnF_eq (c : Kd) {h t : List Nat} {i : Nat} (h1 : i < t.length) (h2 : i < h.length) : opnF c h t i = c.dec (t[i] ^^^ h[i]) := by
  simp [opnF, List.getD, List.getElem?_eq_getElem h1, List.getElem?_eq_getElem h2]
def opnB (k : Int) (h t : List Nat) : Bool := kindB k && (tmplB h && (tmplB t && decide (t.length = h.length)))
def opnO (tg : Int) : Option (List Nat × Nat) → List Nat × Int
  | some (L, _) => if (tagF L : Int) = tg then (L, 0) else ([], 51)
  | none => ([], 51)
/-- What Open returns. -/
def opnR (k : Int) (h : List Nat) (tg : Int) (t : List Nat) : List Nat × Int := if opnB k h t = true then opnO tg (runF (opnF (kd k.toNat) h t) t.length) else ([], 2)
theorem dec_lt {c : Kd} (hc : c.ok) {x m d : Nat} (h : c.dec x = some (m, d)) : m < 65536 ∧ d ≤ 16 := by
  obtain ⟨h1, h2, h3, h4⟩ := Kd.near_some _ _ _ h
  have hs := hc.sum
  have h5 : 2 ^ c.k ≤ 2 ^ 11 := Nat.pow_le_pow_right (by decide) hs.2.2.1
  simp only at h1 h2 h3 h4
  omega
/-- What the program decodes, by what the reference decodes. -/
theorem dcV_dec {c : Kd} (hc : c.ok) {x : Nat} (hx : x < 2 ^ 15) : (c.dec x = none → ∃ m, m < 65536 ∧ dcV c x (c.err (c.rest x)) = .tuple #[.int .u16 (m : Nat), .int .i64 0, .bool false]) ∧ ∀ m d, c.dec x = some (m, d) → dcV c x (c.err (c.rest x)) = .tuple #[.int .u16 (m : Nat), .int .i64 (d : Nat), .bool true] := by
  rw [c.dec_err hc hx]
  cases c.err (c.rest x) with
  | none => exact ⟨fun _ => ⟨x >>> c.f, by have : x >>> c.f ≤ x := by rw [Nat.shiftRight_eq_div_pow]; exact Nat.div_le_self _ _
                                           omega, rfl⟩, (fun m d h => by cases h)⟩
  | some e =>
    refine ⟨(fun h => by cases h), fun m d h => ?_⟩
    simp only [Option.map_some, Option.some.injEq, Prod.mk.injEq] at h
    obtain ⟨rfl, rfl⟩ := h
    rfl
theorem w16_snoc {L : List Nat} {x : Nat} (h : W16 L) (hx : x < 65536) : W16 (L ++ [x]) := fun y hy => by
  rcases List.mem_append.1 hy with hy | hy
  · exact h y hy
  · simp only [List.mem_singleton] at hy; omega
set_option maxRecDepth 100000 in
set_option maxHeartbeats 4000000 in
theorem same_true (k tg : Int) (h : List Nat) (A A' : Option Addr) (n n' cp cp' : Nat) (w : World) (hr : Rd w A (u16s h)) (hr' : Rd w A' (u16s h)) (hn : n = h.length) (hn' : n' = h.length) (hbig : n ≤ 4611686018427387904) :
    Calls Tryd.prog 24 #[.agg #[.int .u8 k, .slice A n cp, .int .u32 tg], .agg #[.int .u8 k, .slice A' n' cp', .int .u32 tg]] w fun e w' => e = .returned (.bool true) ∧ Below w.heap.size w w' := by
  have K19 := Lib.hid (fun W (hb : Below w.heap.size w W) => sameWords_true h A A' n n' cp cp' W (hr.below hb) (hr'.below hb) hn hn' hbig)
  have S0 := Lib.hid (((Own.start w).new 25 #[.int .u8 k, .slice A n cp, .int .u32 tg]).new' 25 #[.int .u8 k, .slice A' n' cp', .int .u32 tg] (B := w.heap.size + 1) (by simp))
  clear hr hr' hn hn' hbig
  go_enter Tryd.func24, Tryd.ntmps24
  go_upto_region 1 with fail
  generalize ((w.alloc _).alloc _) = w1 at *
  obtain ⟨t0, t1, t2, _⟩ := (S0.out.bx 0 rfl).c3
  have lt := (S0.out.bx 0 rfl).2.2
  obtain ⟨r0, r1, r2, _⟩ := (S0.out.bx 1 rfl).c3
  have lr := (S0.out.bx 1 rfl).2.2
  go_wp2_with fail
  refine (K19.out _ S0.out.bel).mono ?_
  rintro e w2 ⟨rfl, hb2⟩
  have S2 := Lib.hid (S0.out.ext hb2)
  clear hb2 t0 t1 t2 lt r0 r1 r2 lr
  go_wp2_with fail
  go_ret
  exact ⟨rfl, S2.out.bel⟩
set_option maxRecDepth 100000 in
set_option maxHeartbeats 4000000 in
theorem open_any (k : Int) (h : List Nat) (tg : Int) (t : List Nat) (A A' : Option Addr) (n n' cp cp' : Nat) (w : World) (hc : Cod w) (hk : 0 ≤ k ∧ k ≤ 255) (hh : Rd w A (u16s h)) (ht : Rd w A' (u16s t)) (hn : n = h.length) (hn' : n' = t.length) :
    Calls Tryd.prog 25 #[.agg #[.int .u8 k, .slice A n cp, .int .u32 tg], .slice A' n' cp'] w (WsPost (opnR k h tg t).1 (opnR k h tg t).2 w) := by
  have K57 := fun W (h : Cod W) => kind_any k W h hk
  have HCD := Lib.hid (fun W (h : Below w.heap.size w W) => hc.below h)
  have Kh := fun W (hr : Rd W A (u16s h)) => template_any h A n cp W hr hn
  have Kt := fun W (h : Rd W A' (u16s t)) => template_any t A' n' cp' W h hn'
  have HFh := Lib.hid (fun W (h : Below w.heap.size w W) => hh.below h)
  have HFt := Lib.hid (fun W (h : Below w.heap.size w W) => ht.below h)
  have S0 := Lib.hid ((Own.start w).new 25 #[.int .u8 k, .slice A n cp, .int .u32 tg])
  cases hkb : kindB k
  · as_aux_lemma =>
    have HL := Lib.hid (show opnR k h tg t = ([], 2) by simp [opnR, opnB, hkb])
    rw [hkb] at K57
    replace K57 := Lib.hid K57
    obtain ⟨g, q, tt, HG⟩ : ∃ g q tt : Int, Hid (kdV (kd k.toNat) = .agg #[.int .u16 g, .int .i64 q, .int .i64 tt]) := ⟨_, _, _, Lib.hid rfl⟩
    rw [HG.out] at K57
    clear HG
    clear hh ht hc hn hn' hkb Kh Kt
    go_enter Tryd.func25, Tryd.ntmps25
    go_upto_region 1 with fail
    generalize (w.alloc _) = w0 at *
    obtain ⟨r0, r1, r2, _⟩ := (S0.out.bx 0 rfl).c3
    have lr := (S0.out.bx 0 rfl).2.2
    go_wp2_with fail
    refine (K57.out _ (HCD.out _ S0.out.bel)).mono ?_
    rintro e w1 ⟨rfl, hb1⟩
    have S1 := Lib.hid (S0.out.ext hb1)
    clear hb1 r0 r1 r2 lr S0
    go_upto_region 2 with fail
    have S2 := Lib.hid (S1.out.new 94 #[.int .u16 g, .int .i64 q, .int .i64 tt])
    generalize w1.alloc _ = w2 at *
    generalize w1.heap.size = B6 at *
    clear S1
    obtain ⟨t0, t1, t2, _⟩ := (S2.out.bx 0 rfl).c3
    have lt := (S2.out.bx 0 rfl).2.2
    obtain ⟨r0, r1, r2, _⟩ := (S2.out.bx 1 rfl).c3
    have lr := (S2.out.bx 1 rfl).2.2
    go_wp2_with fail
    go_ret2
    exact ⟨none, 0, by rw [HL.out]; rfl, by rw [HL.out]; exact ((S2.out.nil 41 1).sub [0] (by decide) rfl)⟩
  obtain ⟨m, hm, hm1, hm3, hmt⟩ := kind_bd hkb
  have hok := kd_ok hm1 hm3
  have HRR := Lib.hid (show opnB k h t = (tmplB h && (tmplB t && decide (t.length = h.length))) by simp [opnB, hkb])
  have HRO := Lib.hid (show opnR k h tg t = if opnB k h t = true then opnO tg (runF (opnF (kd m) h t) t.length) else ([], 2) by rw [opnR, hmt])
  have HDL := Lib.hid (fun x m' d h => dec_lt (c := kd m) hok (x := x) (m := m') (d := d) h)
  have HDV := Lib.hid (fun x (hx : x < 2 ^ 15) => dcV_dec hok hx)
  have HD := Lib.hid (fun x (hx : x < 2 ^ 15) W => decode_any (kd m) hok x hx W)
  rw [hkb, hmt] at K57
  generalize kd m = c at *
  unfold kdV at K57 HD
  clear hm hmt hkb hok
  replace K57 := Lib.hid K57
  cases hhb : tmplB h
  · as_aux_lemma =>
    have HL := Lib.hid (show opnR k h tg t = ([], 2) by rw [HRO.out, HRR.out, hhb]; rfl)
    rw [hhb] at Kh
    replace Kh := Lib.hid Kh
    clear hh ht hc hn hn' hhb Kt
    go_enter Tryd.func25, Tryd.ntmps25
    go_upto_region 1 with fail
    generalize (w.alloc _) = w0 at *
    obtain ⟨r0, r1, r2, _⟩ := (S0.out.bx 0 rfl).c3
    have lr := (S0.out.bx 0 rfl).2.2
    go_wp2_with fail
    refine (K57.out _ (HCD.out _ S0.out.bel)).mono ?_
    rintro e w1 ⟨rfl, hb1⟩
    have S1 := Lib.hid (S0.out.ext hb1)
    clear hb1 r0 r1 r2 lr S0
    go_upto_region 2 with fail
    have S2 := Lib.hid (S1.out.new 94 #[.int .u16 c.g, .int .i64 c.k, .int .i64 c.t])
    generalize w1.alloc _ = w2 at *
    generalize w1.heap.size = B6 at *
    clear S1
    obtain ⟨t0, t1, t2, _⟩ := (S2.out.bx 0 rfl).c3
    have lt := (S2.out.bx 0 rfl).2.2
    obtain ⟨r0, r1, r2, _⟩ := (S2.out.bx 1 rfl).c3
    have lr := (S2.out.bx 1 rfl).2.2
    go_wp2_with fail
    refine (Kh.out _ (HFh.out _ S2.out.bel)).mono ?_
    rintro e w3 ⟨rfl, rfl⟩
    go_wp2_with fail
    go_ret2
    exact ⟨none, 0, by rw [HL.out]; rfl, by rw [HL.out]; exact ((S2.out.nil 41 1).sub [0] (by decide) rfl)⟩
  rw [hhb] at Kh
  replace Kh := Lib.hid Kh
  cases htb : tmplB t
  · as_aux_lemma =>
    have HL := Lib.hid (show opnR k h tg t = ([], 2) by rw [HRO.out, HRR.out, htb]; simp)
    rw [htb] at Kt
    replace Kt := Lib.hid Kt
    clear hh ht hc hn hn' hhb htb
    go_enter Tryd.func25, Tryd.ntmps25
    go_upto_region 1 with fail
    generalize (w.alloc _) = w0 at *
    obtain ⟨r0, r1, r2, _⟩ := (S0.out.bx 0 rfl).c3
    have lr := (S0.out.bx 0 rfl).2.2
    go_wp2_with fail
    refine (K57.out _ (HCD.out _ S0.out.bel)).mono ?_
    rintro e w1 ⟨rfl, hb1⟩
    have S1 := Lib.hid (S0.out.ext hb1)
    clear hb1 r0 r1 r2 lr S0
    go_upto_region 2 with fail
    have S2 := Lib.hid (S1.out.new 94 #[.int .u16 c.g, .int .i64 c.k, .int .i64 c.t])
    generalize w1.alloc _ = w2 at *
    generalize w1.heap.size = B6 at *
    clear S1
    obtain ⟨t0, t1, t2, _⟩ := (S2.out.bx 0 rfl).c3
    have lt := (S2.out.bx 0 rfl).2.2
    obtain ⟨r0, r1, r2, _⟩ := (S2.out.bx 1 rfl).c3
    have lr := (S2.out.bx 1 rfl).2.2
    go_wp2_with fail
    refine (Kh.out _ (HFh.out _ S2.out.bel)).mono ?_
    rintro e w3 ⟨rfl, rfl⟩
    go_wp2_with fail
    refine (Kt.out _ (HFt.out _ S2.out.bel)).mono ?_
    rintro e w4 ⟨rfl, rfl⟩
    go_wp2_with fail
    go_ret2
    exact ⟨none, 0, by rw [HL.out]; rfl, by rw [HL.out]; exact ((S2.out.nil 41 1).sub [0] (by decide) rfl)⟩
  rw [htb] at Kt
  replace Kt := Lib.hid Kt
  by_cases hlen : n' = n
  case neg => as_aux_lemma =>
    have HL := Lib.hid (show opnR k h tg t = ([], 2) by rw [HRO.out, HRR.out, decide_eq_false (by omega)]; simp)
    have hne : ¬ (n' : Int) = (n : Int) := by omega
    clear hh ht hc hn hn' hhb htb hlen
    go_enter Tryd.func25, Tryd.ntmps25
    go_upto_region 1 with fail
    generalize (w.alloc _) = w0 at *
    obtain ⟨r0, r1, r2, _⟩ := (S0.out.bx 0 rfl).c3
    have lr := (S0.out.bx 0 rfl).2.2
    go_wp2_with fail
    refine (K57.out _ (HCD.out _ S0.out.bel)).mono ?_
    rintro e w1 ⟨rfl, hb1⟩
    have S1 := Lib.hid (S0.out.ext hb1)
    clear hb1 r0 r1 r2 lr S0
    go_upto_region 2 with fail
    have S2 := Lib.hid (S1.out.new 94 #[.int .u16 c.g, .int .i64 c.k, .int .i64 c.t])
    generalize w1.alloc _ = w2 at *
    generalize w1.heap.size = B6 at *
    clear S1
    obtain ⟨t0, t1, t2, _⟩ := (S2.out.bx 0 rfl).c3
    have lt := (S2.out.bx 0 rfl).2.2
    obtain ⟨r0, r1, r2, _⟩ := (S2.out.bx 1 rfl).c3
    have lr := (S2.out.bx 1 rfl).2.2
    go_wp2_with fail
    refine (Kh.out _ (HFh.out _ S2.out.bel)).mono ?_
    rintro e w3 ⟨rfl, rfl⟩
    go_wp2_with fail
    refine (Kt.out _ (HFt.out _ S2.out.bel)).mono ?_
    rintro e w4 ⟨rfl, rfl⟩
    go_wp2_with fail
    go_ret2
    exact ⟨none, 0, by rw [HL.out]; rfl, by rw [HL.out]; exact ((S2.out.nil 41 1).sub [0] (by decide) rfl)⟩
  subst hlen
  obtain ⟨_, _, hh15⟩ := tmpl_bd hhb
  obtain ⟨l1, l4, l15⟩ := tmpl_bd htb
  have HL := Lib.hid (show opnR k h tg t = opnO tg (runF (opnF c h t) n') by rw [HRO.out, HRR.out, hhb, htb, decide_eq_true (by omega), hn']; rfl)
  have HHB := Lib.hid hh15
  have HLB := Lib.hid l15
  have HN := Lib.hid hn
  have HN' := Lib.hid hn'
  have hn1 : 1 ≤ n' := by omega
  have hn4 : n' ≤ 4 := by omega
  clear hh ht hc hn hn' hhb htb l1 l4 l15 hh15 HRR HRO
  as_aux_lemma =>
  go_enter Tryd.func25, Tryd.ntmps25
  go_upto_region 1 with fail
  generalize (w.alloc _) = w0 at *
  obtain ⟨r0, r1, r2, _⟩ := (S0.out.bx 0 rfl).c3
  have lr := (S0.out.bx 0 rfl).2.2
  go_wp2_with fail
  refine (K57.out _ (HCD.out _ S0.out.bel)).mono ?_
  rintro e w1 ⟨rfl, hb1⟩
  have S1 := Lib.hid (S0.out.ext hb1)
  clear hb1 r0 r1 r2 lr S0
  go_upto_region 2 with fail
  have S2 := Lib.hid (S1.out.new 94 #[.int .u16 c.g, .int .i64 c.k, .int .i64 c.t])
  generalize w1.alloc _ = w2 at *
  generalize w1.heap.size = B6 at *
  clear S1
  obtain ⟨t0, t1, t2, _⟩ := (S2.out.bx 0 rfl).c3
  have lt := (S2.out.bx 0 rfl).2.2
  obtain ⟨r0, r1, r2, _⟩ := (S2.out.bx 1 rfl).c3
  have lr := (S2.out.bx 1 rfl).2.2
  go_wp2_with fail
  refine (Kh.out _ (HFh.out _ S2.out.bel)).mono ?_
  rintro e w3 ⟨rfl, rfl⟩
  go_wp2_with fail
  refine (Kt.out _ (HFt.out _ S2.out.bel)).mono ?_
  rintro e w4 ⟨rfl, rfl⟩
  go_wp2_with fail
  have S5 := Lib.hid ((S2.out.nil 41 1).cast (qs := [row 41 1 (.slice none 0 0) 0 (u16s []), box B6 94 [.int .u16 c.g, .int .i64 c.k, .int .i64 c.t], box w.heap.size 25 [.int .u8 k, .slice A n' cp, .int .u32 tg]]) rfl)
  clear S2 t0 t1 t2 lt r0 r1 r2 lr
  go_loopg [8, 43] n' (fun q u8 u43 wr => ∃ (i : Nat) (A1 : Option Addr) (c1 : Nat), i ≤ n' ∧ u8 = .slice A1 i c1 ∧ u43 = .int .i64 (i : Nat) ∧ Hid (∃ Lx mm, runF (opnF c h t) i = some (Lx, mm) ∧ i + q = n' ∧ W16 Lx ∧ Own w wr [row 41 1 (.slice A1 i c1) i (u16s Lx), box B6 94 [.int .u16 c.g, .int .i64 c.k, .int .i64 c.t], box w.heap.size 25 [.int .u8 k, .slice A n' cp, .int .u32 tg]]))
  case atStart => exact ⟨0, none, 0, by omega, rfl, rfl, [], 0, rfl, by omega, (fun x h => by simp at h), S5.out⟩
  case round =>
    obtain ⟨i, A1, c1, hi, rfl, rfl, hI⟩ := hrel
    obtain ⟨Lx, mm, I0, I1, I3, I2⟩ := hI.out
    replace I0 := Lib.hid I0
    replace I1 := Lib.hid I1
    replace I2 := Lib.hid I2
    replace I3 := Lib.hid I3
    have HLL := Lib.hid (runF_len _ _ _ I0.out)
    clear hI S5
    by_cases hlt : i < n'
    case neg => as_aux_lemma =>
      have hni : ¬ (i : Int) < (n' : Int) := by omega
      have HE1 := Lib.hid (fun (h9 : ((tagF Lx : Nat) : Int) = tg) => (show opnR k h tg t = (Lx, 0) by rw [HL.out, show n' = i by omega, I0.out]; exact if_pos h9))
      have HE2 := Lib.hid (fun (h9 : ¬ ((tagF Lx : Nat) : Int) = tg) => (show opnR k h tg t = ([], 51) by rw [HL.out, show n' = i by omega, I0.out]; exact if_neg h9))
      have HTG := Lib.hid (fun W (h : Rd W A1 (u16s Lx)) => tag_any Lx A1 i c1 W h HLL.out.symm I3.out (by omega))
      generalize tagF Lx = v at *
      by_cases htg : (v : Int) = tg
      · as_aux_lemma =>
        have HE := Lib.hid (HE1.out htg)
        clear HE1 HE2
        go_upto_region 13 with fail
        have a0 := fun z : OwnOf w [row 41 1 (.slice A1 i c1) i (u16s Lx), box B6 94 [.int .u16 c.g, .int .i64 c.k, .int .i64 c.t], box w.heap.size 25 [.int .u8 k, .slice A n' cp, .int .u32 tg]] => (z.bx 2 rfl).1 2 _ rfl
        have a1 := Lib.hid (fun z : OwnOf w [row 41 1 (.slice A1 i c1) i (u16s Lx), box B6 94 [.int .u16 c.g, .int .i64 c.k, .int .i64 c.t], box w.heap.size 25 [.int .u8 k, .slice A n' cp, .int .u32 tg]] => own_same (HTG.out z.wld (z.own.rd 0 rfl)))
        have hne : Nonempty (OwnOf w [row 41 1 (.slice A1 i c1) i (u16s Lx), box B6 94 [.int .u16 c.g, .int .i64 c.k, .int .i64 c.t], box w.heap.size 25 [.int .u8 k, .slice A n' cp, .int .u32 tg]]) := ⟨⟨_, I2.out⟩⟩
        refine wp_region_own I2.out (by kernel_rfl) (by kernel_rfl) ?_
        go_big_quiet_step (fail)
        go_big_quiet_step ((go_at_call 67; exact a1.out _))
        iterate 3 (go_big_quiet_step (fail))
        refine wpQuiet_nil ?_
        rintro w7 ⟨z, hz⟩
        have S7 := Lib.hid (show Own w w7 [row 41 1 (.slice A1 i c1) i (u16s Lx), box B6 94 [.int .u16 c.g, .int .i64 c.k, .int .i64 c.t], box w.heap.size 25 [.int .u8 k, .slice A n' cp, .int .u32 tg]] by rw [hz]; exact z.own)
        clear hz z hne a0 a1
        go_wp2_with fail
        go_ret2
        exact ⟨A1, c1, by rw [HE.out, HLL.out]; rfl, by rw [HE.out, HLL.out]; exact (S7.out.sub [0] (by decide) rfl)⟩
      · as_aux_lemma =>
        have HE := Lib.hid (HE2.out htg)
        clear HE1 HE2
        go_upto_region 13 with fail
        have a0 := fun z : OwnOf w [row 41 1 (.slice A1 i c1) i (u16s Lx), box B6 94 [.int .u16 c.g, .int .i64 c.k, .int .i64 c.t], box w.heap.size 25 [.int .u8 k, .slice A n' cp, .int .u32 tg]] => (z.bx 2 rfl).1 2 _ rfl
        have a1 := Lib.hid (fun z : OwnOf w [row 41 1 (.slice A1 i c1) i (u16s Lx), box B6 94 [.int .u16 c.g, .int .i64 c.k, .int .i64 c.t], box w.heap.size 25 [.int .u8 k, .slice A n' cp, .int .u32 tg]] => own_same (HTG.out z.wld (z.own.rd 0 rfl)))
        have hne : Nonempty (OwnOf w [row 41 1 (.slice A1 i c1) i (u16s Lx), box B6 94 [.int .u16 c.g, .int .i64 c.k, .int .i64 c.t], box w.heap.size 25 [.int .u8 k, .slice A n' cp, .int .u32 tg]]) := ⟨⟨_, I2.out⟩⟩
        refine wp_region_own I2.out (by kernel_rfl) (by kernel_rfl) ?_
        go_big_quiet_step (fail)
        go_big_quiet_step ((go_at_call 67; exact a1.out _))
        iterate 3 (go_big_quiet_step (fail))
        refine wpQuiet_nil ?_
        rintro w7 ⟨z, hz⟩
        have S7 := Lib.hid (show Own w w7 [row 41 1 (.slice A1 i c1) i (u16s Lx), box B6 94 [.int .u16 c.g, .int .i64 c.k, .int .i64 c.t], box w.heap.size 25 [.int .u8 k, .slice A n' cp, .int .u32 tg]] by rw [hz]; exact z.own)
        clear hz z hne a0 a1
        go_wp2_with fail
        go_ret2
        exact ⟨none, 0, by rw [HE.out]; rfl, by rw [HE.out]; exact ((S7.out.nil 41 1).sub [0] (by decide) rfl)⟩
    have hil : i < t.length := by rw [← HN'.out]; exact hlt
    have hil2 : i < h.length := by rw [← HN.out]; exact hlt
    have hix : (i : Int) < (n' : Int) := by omega
    have hx15 := HLB.out t[i] (List.getElem_mem hil)
    have hy15 := HHB.out h[i] (List.getElem_mem hil2)
    have HTK := Lib.hid (fun W (h : Below w.heap.size w W) => (HFt.out W h).u16 hil)
    have HHK := Lib.hid (fun W (h : Below w.heap.size w W) => (HFh.out W h).u16 hil2)
    have HF := Lib.hid (opnF_eq c hil hil2)
    have e1 : bits .xor .u16 (t[i] : Int) (h[i] : Int) = ((t[i] ^^^ h[i] : Nat) : Int) := u16_xor_nat _ _ (by omega) (by omega)
    replace HD := Lib.hid (HD.out (t[i] ^^^ h[i]) (Nat.xor_lt_two_pow hx15 hy15))
    replace HDV := Lib.hid (HDV.out (t[i] ^^^ h[i]) (Nat.xor_lt_two_pow hx15 hy15))
    replace HDL := Lib.hid (HDL.out (t[i] ^^^ h[i]))
    generalize t[i] ^^^ h[i] = z at *
    generalize dcV c z (c.err (c.rest z)) = V at *
    generalize c.dec z = ra at *
    generalize t[i] = x at *
    generalize h[i] = y at *
    obtain ⟨b8, off8, rfl, k8, l8⟩ := HTK.out _ I2.out.bel
    obtain ⟨b9, off9, rfl, k9, l9⟩ := HHK.out _ I2.out.bel
    have K9 := Lib.hid (fun z : OwnOf w [row 41 1 (.slice A1 i c1) i (u16s Lx), box B6 94 [.int .u16 c.g, .int .i64 c.k, .int .i64 c.t], box w.heap.size 25 [.int .u8 k, .slice (some ⟨b9, off9, none⟩) n' cp, .int .u32 tg]] => (show z.wld.cell? ⟨b9, off9 + i, none⟩ = some (.int .u16 (y : Nat)) by obtain ⟨b, o, e, h, _⟩ := HHK.out z.wld z.own.bel; simp only [Option.some.injEq, Addr.mk.injEq] at e; obtain ⟨rfl, rfl, _⟩ := e; exact h))
    have K8 := Lib.hid (fun z : OwnOf w [row 41 1 (.slice A1 i c1) i (u16s Lx), box B6 94 [.int .u16 c.g, .int .i64 c.k, .int .i64 c.t], box w.heap.size 25 [.int .u8 k, .slice (some ⟨b9, off9, none⟩) n' cp, .int .u32 tg]] => (show z.wld.cell? ⟨b8, off8 + i, none⟩ = some (.int .u16 (x : Nat)) by obtain ⟨b, o, e, h, _⟩ := HTK.out z.wld z.own.bel; simp only [Option.some.injEq, Addr.mk.injEq] at e; obtain ⟨rfl, rfl, _⟩ := e; exact h))
    clear k9 l9 HHK HTK
    cases hra : ra with
    | none => as_aux_lemma =>
      obtain ⟨m0, hm0, hV⟩ := HDV.out.1 hra
      have HD2 := Lib.hid (fun W => (show Calls Tryd.prog 70 #[.agg #[.int .u16 c.g, .int .i64 c.k, .int .i64 c.t], .int .u16 (z : Nat)] W fun e w' => e = .returned (.tuple #[.int .u16 (m0 : Nat), .int .i64 0, .bool false]) ∧ Below W.heap.size W w' by have := HD.out W; rw [hV] at this; exact this))
      clear hV
      have HX := Lib.hid (show opnR k h tg t = ([], 51) by rw [HL.out, runF_stop (HF.out.trans hra) n' hlt]; rfl)
      clear hra
      go_upto_region 8 with fail
      have a0 := fun z : OwnOf w [row 41 1 (.slice A1 i c1) i (u16s Lx), box B6 94 [.int .u16 c.g, .int .i64 c.k, .int .i64 c.t], box w.heap.size 25 [.int .u8 k, .slice (some ⟨b9, off9, none⟩) n' cp, .int .u32 tg]] => (z.bx 1 rfl).1 0 _ rfl
      have a1 := fun z : OwnOf w [row 41 1 (.slice A1 i c1) i (u16s Lx), box B6 94 [.int .u16 c.g, .int .i64 c.k, .int .i64 c.t], box w.heap.size 25 [.int .u8 k, .slice (some ⟨b9, off9, none⟩) n' cp, .int .u32 tg]] => (z.bx 1 rfl).1 1 _ rfl
      have a2 := fun z : OwnOf w [row 41 1 (.slice A1 i c1) i (u16s Lx), box B6 94 [.int .u16 c.g, .int .i64 c.k, .int .i64 c.t], box w.heap.size 25 [.int .u8 k, .slice (some ⟨b9, off9, none⟩) n' cp, .int .u32 tg]] => (z.bx 1 rfl).1 2 _ rfl
      have a3 := fun z : OwnOf w [row 41 1 (.slice A1 i c1) i (u16s Lx), box B6 94 [.int .u16 c.g, .int .i64 c.k, .int .i64 c.t], box w.heap.size 25 [.int .u8 k, .slice (some ⟨b9, off9, none⟩) n' cp, .int .u32 tg]] => (z.bx 2 rfl).1 1 _ rfl
      have a4 := fun z : OwnOf w [row 41 1 (.slice A1 i c1) i (u16s Lx), box B6 94 [.int .u16 c.g, .int .i64 c.k, .int .i64 c.t], box w.heap.size 25 [.int .u8 k, .slice (some ⟨b9, off9, none⟩) n' cp, .int .u32 tg]] => K9.out z
      have hne : Nonempty (OwnOf w [row 41 1 (.slice A1 i c1) i (u16s Lx), box B6 94 [.int .u16 c.g, .int .i64 c.k, .int .i64 c.t], box w.heap.size 25 [.int .u8 k, .slice (some ⟨b9, off9, none⟩) n' cp, .int .u32 tg]]) := ⟨⟨_, I2.out⟩⟩
      refine wp_region_own I2.out (by kernel_rfl) (by kernel_rfl) ?_
      iterate 8 (go_big_quiet_step (fail))
      go_big_quiet_step ((go_at_call 70; exact own_of (HD2.out _)))
      iterate 7 (go_big_quiet_step (fail))
      refine wpQuiet_nil ?_
      rintro w7 ⟨z, hz⟩
      have S7 := Lib.hid (show Own w w7 [row 41 1 (.slice A1 i c1) i (u16s Lx), box B6 94 [.int .u16 c.g, .int .i64 c.k, .int .i64 c.t], box w.heap.size 25 [.int .u8 k, .slice (some ⟨b9, off9, none⟩) n' cp, .int .u32 tg]] by rw [hz]; exact z.own)
      clear hz z hne a0 a1 a2 a3 a4 K8 K9
      go_wp2_with fail
      go_ret2
      exact ⟨none, 0, by rw [HX.out]; rfl, by rw [HX.out]; exact ((S7.out.nil 41 1).sub [0] (by decide) rfl)⟩
    | some yd => as_aux_lemma =>
      obtain ⟨mg, d⟩ := yd
      obtain ⟨hmg, hd16⟩ := HDL.out mg d hra
      have hV := HDV.out.2 mg d hra
      have HD2 := Lib.hid (fun W => (show Calls Tryd.prog 70 #[.agg #[.int .u16 c.g, .int .i64 c.k, .int .i64 c.t], .int .u16 (z : Nat)] W fun e w' => e = .returned (.tuple #[.int .u16 (mg : Nat), .int .i64 (d : Nat), .bool true]) ∧ Below W.heap.size W w' by have := HD.out W; rw [hV] at this; exact this))
      clear hV
      have HX := Lib.hid (runF_step I0.out (HF.out.trans hra))
      clear hra
      go_upto_region 8 with fail
      have a0 := fun z : OwnOf w [row 41 1 (.slice A1 i c1) i (u16s Lx), box B6 94 [.int .u16 c.g, .int .i64 c.k, .int .i64 c.t], box w.heap.size 25 [.int .u8 k, .slice (some ⟨b9, off9, none⟩) n' cp, .int .u32 tg]] => (z.bx 1 rfl).1 0 _ rfl
      have a1 := fun z : OwnOf w [row 41 1 (.slice A1 i c1) i (u16s Lx), box B6 94 [.int .u16 c.g, .int .i64 c.k, .int .i64 c.t], box w.heap.size 25 [.int .u8 k, .slice (some ⟨b9, off9, none⟩) n' cp, .int .u32 tg]] => (z.bx 1 rfl).1 1 _ rfl
      have a2 := fun z : OwnOf w [row 41 1 (.slice A1 i c1) i (u16s Lx), box B6 94 [.int .u16 c.g, .int .i64 c.k, .int .i64 c.t], box w.heap.size 25 [.int .u8 k, .slice (some ⟨b9, off9, none⟩) n' cp, .int .u32 tg]] => (z.bx 1 rfl).1 2 _ rfl
      have a3 := fun z : OwnOf w [row 41 1 (.slice A1 i c1) i (u16s Lx), box B6 94 [.int .u16 c.g, .int .i64 c.k, .int .i64 c.t], box w.heap.size 25 [.int .u8 k, .slice (some ⟨b9, off9, none⟩) n' cp, .int .u32 tg]] => (z.bx 2 rfl).1 1 _ rfl
      have a4 := fun z : OwnOf w [row 41 1 (.slice A1 i c1) i (u16s Lx), box B6 94 [.int .u16 c.g, .int .i64 c.k, .int .i64 c.t], box w.heap.size 25 [.int .u8 k, .slice (some ⟨b9, off9, none⟩) n' cp, .int .u32 tg]] => K9.out z
      have hne : Nonempty (OwnOf w [row 41 1 (.slice A1 i c1) i (u16s Lx), box B6 94 [.int .u16 c.g, .int .i64 c.k, .int .i64 c.t], box w.heap.size 25 [.int .u8 k, .slice (some ⟨b9, off9, none⟩) n' cp, .int .u32 tg]]) := ⟨⟨_, I2.out⟩⟩
      refine wp_region_own I2.out (by kernel_rfl) (by kernel_rfl) ?_
      iterate 8 (go_big_quiet_step (fail))
      go_big_quiet_step ((go_at_call 70; exact own_of (HD2.out _)))
      iterate 7 (go_big_quiet_step (fail))
      refine wpQuiet_nil ?_
      rintro w7 ⟨z, hz⟩
      have S7 := Lib.hid (show Own w w7 [row 41 1 (.slice A1 i c1) i (u16s Lx), box B6 94 [.int .u16 c.g, .int .i64 c.k, .int .i64 c.t], box w.heap.size 25 [.int .u8 k, .slice (some ⟨b9, off9, none⟩) n' cp, .int .u32 tg]] by rw [hz]; exact z.own)
      clear hz z hne a0 a1 a2 a3 a4 K8 K9
      go_wp2_with (at_builtin; refine wpList_appP rfl (.tmp 63) (.tmp 65) 22 rfl st22 0 (S7.out.ext (below_alloc w7 (.cells #[.int .u16 (mg : Nat)] 41))) rfl rfl rfl (i + 1) (u16s (Lx ++ [mg])) ?_ [.int .u16 (mg : Nat)] rfl (u16s_app Lx mg) (Rd.new _ #[.int .u16 (mg : Nat)] 41) rfl (by simp [Value.oneCell']) (by unfold maxLen; omega) (by omega); intro A9 c9 w9 hO9; have HO9 := Lib.hid hO9; clear hO9)
      go_roundg (gk - 1)
      case measure => have := I1.out; omega
      case rel => exact ⟨i + 1, A9, c9, by omega, rfl, by go_num, Lx ++ [mg], mm + d, HX.out, by have := I1.out; omega, w16_snoc I3.out hmg, HO9.out⟩
set_option maxRecDepth 100000 in
set_option maxHeartbeats 4000000 in
theorem refOpen_any (k : Int) (h : List Nat) (tg : Int) (t : List Nat) (A A' : Option Addr) (n n' cp cp' : Nat) (w : World) (hh : Rd w A (u16s h)) (ht : Rd w A' (u16s t)) (hn : n = h.length) (hn' : n' = t.length) :
    Calls Tryd.prog 26 #[.agg #[.int .u8 k, .slice A n cp, .int .u32 tg], .slice A' n' cp'] w (WsPost (opnR k h tg t).1 (opnR k h tg t).2 w) := by
  have K29 := fun W => Kind_any k W
  have Kh := fun W (hr : Rd W A (u16s h)) => refTemplate_any h A n cp W hr hn
  have Kt := fun W (h : Rd W A' (u16s t)) => refTemplate_any t A' n' cp' W h hn'
  have HFh := Lib.hid (fun W (h : Below w.heap.size w W) => hh.below h)
  have HFt := Lib.hid (fun W (h : Below w.heap.size w W) => ht.below h)
  have S0 := Lib.hid ((Own.start w).new 25 #[.int .u8 k, .slice A n cp, .int .u32 tg])
  cases hkb : kindB k
  · as_aux_lemma =>
    have HL := Lib.hid (show opnR k h tg t = ([], 2) by simp [opnR, opnB, hkb])
    rw [hkb] at K29
    replace K29 := Lib.hid K29
    clear hh ht hn hn' hkb Kh Kt
    go_enter Tryd.func26, Tryd.ntmps26
    go_upto_region 1 with fail
    generalize (w.alloc _) = w0 at *
    obtain ⟨r0, r1, r2, _⟩ := (S0.out.bx 0 rfl).c3
    have lr := (S0.out.bx 0 rfl).2.2
    go_wp2_with fail
    refine (K29.out _).mono ?_
    rintro e w1 ⟨rfl, hb1⟩
    have S2 := Lib.hid (S0.out.ext hb1)
    clear hb1 r0 r1 r2 lr S0
    obtain ⟨r0, r1, r2, _⟩ := (S2.out.bx 0 rfl).c3
    have lr := (S2.out.bx 0 rfl).2.2
    go_wp2_with fail
    go_ret2
    exact ⟨none, 0, by rw [HL.out]; rfl, by rw [HL.out]; exact ((S2.out.nil 41 1).sub [0] (by decide) rfl)⟩
  obtain ⟨m, hm, hm1, hm3, hmt⟩ := kind_bd hkb
  have hok := kd_ok hm1 hm3
  have HRR := Lib.hid (show opnB k h t = (tmplB h && (tmplB t && decide (t.length = h.length))) by simp [opnB, hkb])
  have HRO := Lib.hid (show opnR k h tg t = if opnB k h t = true then opnO tg (runF (opnF (kd m) h t) t.length) else ([], 2) by rw [opnR, hmt])
  have HDL := Lib.hid (fun x m' d h => dec_lt (c := kd m) hok (x := x) (m := m') (d := d) h)
  have HD := Lib.hid (fun x (hx : x < 2 ^ 15) W => refDecoded_any m hm1 hm3 x hx W)
  rw [hkb] at K29
  generalize kd m = c at *
  subst hm
  clear hmt hkb hok
  replace K29 := Lib.hid K29
  cases hhb : tmplB h
  · as_aux_lemma =>
    have HL := Lib.hid (show opnR m h tg t = ([], 2) by rw [HRO.out, HRR.out, hhb]; rfl)
    rw [hhb] at Kh
    replace Kh := Lib.hid Kh
    clear hh ht hn hn' hhb Kt
    go_enter Tryd.func26, Tryd.ntmps26
    go_upto_region 1 with fail
    generalize (w.alloc _) = w0 at *
    obtain ⟨r0, r1, r2, _⟩ := (S0.out.bx 0 rfl).c3
    have lr := (S0.out.bx 0 rfl).2.2
    go_wp2_with fail
    refine (K29.out _).mono ?_
    rintro e w1 ⟨rfl, hb1⟩
    have S2 := Lib.hid (S0.out.ext hb1)
    clear hb1 r0 r1 r2 lr S0
    obtain ⟨r0, r1, r2, _⟩ := (S2.out.bx 0 rfl).c3
    have lr := (S2.out.bx 0 rfl).2.2
    go_wp2_with fail
    refine (Kh.out _ (HFh.out _ S2.out.bel)).mono ?_
    rintro e w3 ⟨rfl, rfl⟩
    go_wp2_with fail
    go_ret2
    exact ⟨none, 0, by rw [HL.out]; rfl, by rw [HL.out]; exact ((S2.out.nil 41 1).sub [0] (by decide) rfl)⟩
  rw [hhb] at Kh
  replace Kh := Lib.hid Kh
  cases htb : tmplB t
  · as_aux_lemma =>
    have HL := Lib.hid (show opnR m h tg t = ([], 2) by rw [HRO.out, HRR.out, htb]; simp)
    rw [htb] at Kt
    replace Kt := Lib.hid Kt
    clear hh ht hn hn' hhb htb
    go_enter Tryd.func26, Tryd.ntmps26
    go_upto_region 1 with fail
    generalize (w.alloc _) = w0 at *
    obtain ⟨r0, r1, r2, _⟩ := (S0.out.bx 0 rfl).c3
    have lr := (S0.out.bx 0 rfl).2.2
    go_wp2_with fail
    refine (K29.out _).mono ?_
    rintro e w1 ⟨rfl, hb1⟩
    have S2 := Lib.hid (S0.out.ext hb1)
    clear hb1 r0 r1 r2 lr S0
    obtain ⟨r0, r1, r2, _⟩ := (S2.out.bx 0 rfl).c3
    have lr := (S2.out.bx 0 rfl).2.2
    go_wp2_with fail
    refine (Kh.out _ (HFh.out _ S2.out.bel)).mono ?_
    rintro e w3 ⟨rfl, rfl⟩
    go_wp2_with fail
    refine (Kt.out _ (HFt.out _ S2.out.bel)).mono ?_
    rintro e w4 ⟨rfl, rfl⟩
    go_wp2_with fail
    go_ret2
    exact ⟨none, 0, by rw [HL.out]; rfl, by rw [HL.out]; exact ((S2.out.nil 41 1).sub [0] (by decide) rfl)⟩
  rw [htb] at Kt
  replace Kt := Lib.hid Kt
  by_cases hlen : n' = n
  case neg => as_aux_lemma =>
    have HL := Lib.hid (show opnR m h tg t = ([], 2) by rw [HRO.out, HRR.out, decide_eq_false (by omega)]; simp)
    have hne : ¬ (n' : Int) = (n : Int) := by omega
    clear hh ht hn hn' hhb htb hlen
    go_enter Tryd.func26, Tryd.ntmps26
    go_upto_region 1 with fail
    generalize (w.alloc _) = w0 at *
    obtain ⟨r0, r1, r2, _⟩ := (S0.out.bx 0 rfl).c3
    have lr := (S0.out.bx 0 rfl).2.2
    go_wp2_with fail
    refine (K29.out _).mono ?_
    rintro e w1 ⟨rfl, hb1⟩
    have S2 := Lib.hid (S0.out.ext hb1)
    clear hb1 r0 r1 r2 lr S0
    obtain ⟨r0, r1, r2, _⟩ := (S2.out.bx 0 rfl).c3
    have lr := (S2.out.bx 0 rfl).2.2
    go_wp2_with fail
    refine (Kh.out _ (HFh.out _ S2.out.bel)).mono ?_
    rintro e w3 ⟨rfl, rfl⟩
    go_wp2_with fail
    refine (Kt.out _ (HFt.out _ S2.out.bel)).mono ?_
    rintro e w4 ⟨rfl, rfl⟩
    go_wp2_with fail
    go_ret2
    exact ⟨none, 0, by rw [HL.out]; rfl, by rw [HL.out]; exact ((S2.out.nil 41 1).sub [0] (by decide) rfl)⟩
  subst hlen
  obtain ⟨_, _, hh15⟩ := tmpl_bd hhb
  obtain ⟨l1, l4, l15⟩ := tmpl_bd htb
  have HL := Lib.hid (show opnR m h tg t = opnO tg (runF (opnF c h t) n') by rw [HRO.out, HRR.out, hhb, htb, decide_eq_true (by omega), hn']; rfl)
  have HHB := Lib.hid hh15
  have HLB := Lib.hid l15
  have HN := Lib.hid hn
  have HN' := Lib.hid hn'
  have hn1 : 1 ≤ n' := by omega
  have hn4 : n' ≤ 4 := by omega
  clear hh ht hn hn' hhb htb l1 l4 l15 hh15 HRR HRO
  as_aux_lemma =>
  go_enter Tryd.func26, Tryd.ntmps26
  go_upto_region 1 with fail
  generalize (w.alloc _) = w0 at *
  obtain ⟨r0, r1, r2, _⟩ := (S0.out.bx 0 rfl).c3
  have lr := (S0.out.bx 0 rfl).2.2
  go_wp2_with fail
  refine (K29.out _).mono ?_
  rintro e w1 ⟨rfl, hb1⟩
  have S2 := Lib.hid (S0.out.ext hb1)
  clear hb1 r0 r1 r2 lr S0
  obtain ⟨r0, r1, r2, _⟩ := (S2.out.bx 0 rfl).c3
  have lr := (S2.out.bx 0 rfl).2.2
  go_wp2_with fail
  refine (Kh.out _ (HFh.out _ S2.out.bel)).mono ?_
  rintro e w3 ⟨rfl, rfl⟩
  go_wp2_with fail
  refine (Kt.out _ (HFt.out _ S2.out.bel)).mono ?_
  rintro e w4 ⟨rfl, rfl⟩
  go_wp2_with fail
  have S5 := Lib.hid ((S2.out.nil 41 1).cast (qs := [row 41 1 (.slice none 0 0) 0 (u16s []), box w.heap.size 25 [.int .u8 (m : Nat), .slice A n' cp, .int .u32 tg]]) rfl)
  clear S2 r0 r1 r2 lr
  go_loopg [6, 7] n' (fun q u6 u7 wr => ∃ (i : Nat) (A1 : Option Addr) (c1 : Nat), i ≤ n' ∧ u6 = .slice A1 i c1 ∧ u7 = .int .i64 (i : Nat) ∧ Hid (∃ Lx mm, runF (opnF c h t) i = some (Lx, mm) ∧ i + q = n' ∧ W16 Lx ∧ Own w wr [row 41 1 (.slice A1 i c1) i (u16s Lx), box w.heap.size 25 [.int .u8 (m : Nat), .slice A n' cp, .int .u32 tg]]))
  case atStart => exact ⟨0, none, 0, by omega, rfl, rfl, [], 0, rfl, by omega, (fun x h => by simp at h), S5.out⟩
  case round =>
    obtain ⟨i, A1, c1, hi, rfl, rfl, hI⟩ := hrel
    obtain ⟨Lx, mm, I0, I1, I3, I2⟩ := hI.out
    replace I0 := Lib.hid I0
    replace I1 := Lib.hid I1
    replace I2 := Lib.hid I2
    replace I3 := Lib.hid I3
    have HLL := Lib.hid (runF_len _ _ _ I0.out)
    clear hI S5
    by_cases hlt : i < n'
    case neg => as_aux_lemma =>
      have hni : ¬ (i : Int) < (n' : Int) := by omega
      have HE1 := Lib.hid (fun (h9 : ((tagF Lx : Nat) : Int) = tg) => (show opnR m h tg t = (Lx, 0) by rw [HL.out, show n' = i by omega, I0.out]; exact if_pos h9))
      have HE2 := Lib.hid (fun (h9 : ¬ ((tagF Lx : Nat) : Int) = tg) => (show opnR m h tg t = ([], 51) by rw [HL.out, show n' = i by omega, I0.out]; exact if_neg h9))
      have HTG := Lib.hid (fun W (h : Rd W A1 (u16s Lx)) => tagged_any Lx A1 i c1 W h HLL.out.symm I3.out (by omega))
      generalize tagF Lx = v at *
      by_cases htg : (v : Int) = tg
      · as_aux_lemma =>
        have HE := Lib.hid (HE1.out htg)
        clear HE1 HE2
        go_upto_region 11 with fail
        have a0 := fun z : OwnOf w [row 41 1 (.slice A1 i c1) i (u16s Lx), box w.heap.size 25 [.int .u8 (m : Nat), .slice A n' cp, .int .u32 tg]] => (z.bx 1 rfl).1 2 _ rfl
        have a1 := Lib.hid (fun z : OwnOf w [row 41 1 (.slice A1 i c1) i (u16s Lx), box w.heap.size 25 [.int .u8 (m : Nat), .slice A n' cp, .int .u32 tg]] => own_same (HTG.out z.wld (z.own.rd 0 rfl)))
        have hne : Nonempty (OwnOf w [row 41 1 (.slice A1 i c1) i (u16s Lx), box w.heap.size 25 [.int .u8 (m : Nat), .slice A n' cp, .int .u32 tg]]) := ⟨⟨_, I2.out⟩⟩
        refine wp_region_own I2.out (by kernel_rfl) (by kernel_rfl) ?_
        go_big_quiet_step (fail)
        go_big_quiet_step ((go_at_call 69; exact a1.out _))
        iterate 3 (go_big_quiet_step (fail))
        refine wpQuiet_nil ?_
        rintro w7 ⟨z, hz⟩
        have S7 := Lib.hid (show Own w w7 [row 41 1 (.slice A1 i c1) i (u16s Lx), box w.heap.size 25 [.int .u8 (m : Nat), .slice A n' cp, .int .u32 tg]] by rw [hz]; exact z.own)
        clear hz z hne a0 a1
        go_wp2_with fail
        go_ret2
        exact ⟨A1, c1, by rw [HE.out, HLL.out]; rfl, by rw [HE.out, HLL.out]; exact (S7.out.sub [0] (by decide) rfl)⟩
      · as_aux_lemma =>
        have HE := Lib.hid (HE2.out htg)
        clear HE1 HE2
        go_upto_region 11 with fail
        have a0 := fun z : OwnOf w [row 41 1 (.slice A1 i c1) i (u16s Lx), box w.heap.size 25 [.int .u8 (m : Nat), .slice A n' cp, .int .u32 tg]] => (z.bx 1 rfl).1 2 _ rfl
        have a1 := Lib.hid (fun z : OwnOf w [row 41 1 (.slice A1 i c1) i (u16s Lx), box w.heap.size 25 [.int .u8 (m : Nat), .slice A n' cp, .int .u32 tg]] => own_same (HTG.out z.wld (z.own.rd 0 rfl)))
        have hne : Nonempty (OwnOf w [row 41 1 (.slice A1 i c1) i (u16s Lx), box w.heap.size 25 [.int .u8 (m : Nat), .slice A n' cp, .int .u32 tg]]) := ⟨⟨_, I2.out⟩⟩
        refine wp_region_own I2.out (by kernel_rfl) (by kernel_rfl) ?_
        go_big_quiet_step (fail)
        go_big_quiet_step ((go_at_call 69; exact a1.out _))
        iterate 3 (go_big_quiet_step (fail))
        refine wpQuiet_nil ?_
        rintro w7 ⟨z, hz⟩
        have S7 := Lib.hid (show Own w w7 [row 41 1 (.slice A1 i c1) i (u16s Lx), box w.heap.size 25 [.int .u8 (m : Nat), .slice A n' cp, .int .u32 tg]] by rw [hz]; exact z.own)
        clear hz z hne a0 a1
        go_wp2_with fail
        go_ret2
        exact ⟨none, 0, by rw [HE.out]; rfl, by rw [HE.out]; exact ((S7.out.nil 41 1).sub [0] (by decide) rfl)⟩
    have hil : i < t.length := by rw [← HN'.out]; exact hlt
    have hil2 : i < h.length := by rw [← HN.out]; exact hlt
    have hix : (i : Int) < (n' : Int) := by omega
    have hx15 := HLB.out t[i] (List.getElem_mem hil)
    have hy15 := HHB.out h[i] (List.getElem_mem hil2)
    have HTK := Lib.hid (fun W (h : Below w.heap.size w W) => (HFt.out W h).u16 hil)
    have HHK := Lib.hid (fun W (h : Below w.heap.size w W) => (HFh.out W h).u16 hil2)
    have HF := Lib.hid (opnF_eq c hil hil2)
    have e1 : bits .xor .u16 (h[i] : Int) (t[i] : Int) = ((t[i] ^^^ h[i] : Nat) : Int) := by rw [u16_xor_nat _ _ (by omega) (by omega), Nat.xor_comm]
    replace HD := Lib.hid (HD.out (t[i] ^^^ h[i]) (Nat.xor_lt_two_pow hx15 hy15))
    replace HDL := Lib.hid (HDL.out (t[i] ^^^ h[i]))
    generalize t[i] ^^^ h[i] = z at *
    generalize c.dec z = ra at *
    generalize t[i] = x at *
    generalize h[i] = y at *
    obtain ⟨b8, off8, rfl, k8, l8⟩ := HTK.out _ I2.out.bel
    obtain ⟨b9, off9, rfl, k9, l9⟩ := HHK.out _ I2.out.bel
    have K9 := Lib.hid (fun z : OwnOf w [row 41 1 (.slice A1 i c1) i (u16s Lx), box w.heap.size 25 [.int .u8 (m : Nat), .slice (some ⟨b9, off9, none⟩) n' cp, .int .u32 tg]] => (show z.wld.cell? ⟨b9, off9 + i, none⟩ = some (.int .u16 (y : Nat)) by obtain ⟨b, o, e, h, _⟩ := HHK.out z.wld z.own.bel; simp only [Option.some.injEq, Addr.mk.injEq] at e; obtain ⟨rfl, rfl, _⟩ := e; exact h))
    have K8 := Lib.hid (fun z : OwnOf w [row 41 1 (.slice A1 i c1) i (u16s Lx), box w.heap.size 25 [.int .u8 (m : Nat), .slice (some ⟨b9, off9, none⟩) n' cp, .int .u32 tg]] => (show z.wld.cell? ⟨b8, off8 + i, none⟩ = some (.int .u16 (x : Nat)) by obtain ⟨b, o, e, h, _⟩ := HTK.out z.wld z.own.bel; simp only [Option.some.injEq, Addr.mk.injEq] at e; obtain ⟨rfl, rfl, _⟩ := e; exact h))
    clear k8 l8 k9 l9 HHK HTK
    cases hra : ra with
    | none => as_aux_lemma =>
      have HD2 := Lib.hid (fun W => (show Calls Tryd.prog 64 #[.int .u8 (m : Nat), .int .u16 (z : Nat)] W fun e w' => e = .returned (.tuple #[.int .u16 0, .int .i64 0, .bool false]) ∧ Below W.heap.size W w' by have := HD.out W; rw [hra] at this; exact this))
      have HX := Lib.hid (show opnR m h tg t = ([], 51) by rw [HL.out, runF_stop (HF.out.trans hra) n' hlt]; rfl)
      clear hra
      go_upto_region 7 with fail
      have a0 := fun z : OwnOf w [row 41 1 (.slice A1 i c1) i (u16s Lx), box w.heap.size 25 [.int .u8 (m : Nat), .slice (some ⟨b9, off9, none⟩) n' cp, .int .u32 tg]] => (z.bx 1 rfl).1 0 _ rfl
      have a1 := fun z : OwnOf w [row 41 1 (.slice A1 i c1) i (u16s Lx), box w.heap.size 25 [.int .u8 (m : Nat), .slice (some ⟨b9, off9, none⟩) n' cp, .int .u32 tg]] => K8.out z
      have a2 := fun z : OwnOf w [row 41 1 (.slice A1 i c1) i (u16s Lx), box w.heap.size 25 [.int .u8 (m : Nat), .slice (some ⟨b9, off9, none⟩) n' cp, .int .u32 tg]] => (z.bx 1 rfl).1 0 _ rfl
      have a3 := fun z : OwnOf w [row 41 1 (.slice A1 i c1) i (u16s Lx), box w.heap.size 25 [.int .u8 (m : Nat), .slice (some ⟨b9, off9, none⟩) n' cp, .int .u32 tg]] => (z.bx 1 rfl).1 1 _ rfl
      have a4 := fun z : OwnOf w [row 41 1 (.slice A1 i c1) i (u16s Lx), box w.heap.size 25 [.int .u8 (m : Nat), .slice (some ⟨b9, off9, none⟩) n' cp, .int .u32 tg]] => K9.out z
      have hne : Nonempty (OwnOf w [row 41 1 (.slice A1 i c1) i (u16s Lx), box w.heap.size 25 [.int .u8 (m : Nat), .slice (some ⟨b9, off9, none⟩) n' cp, .int .u32 tg]]) := ⟨⟨_, I2.out⟩⟩
      refine wp_region_own I2.out (by kernel_rfl) (by kernel_rfl) ?_
      iterate 12 (go_big_quiet_step (fail))
      go_big_quiet_step ((go_at_call 64; exact own_of (HD2.out _)))
      iterate 7 (go_big_quiet_step (fail))
      refine wpQuiet_nil ?_
      rintro w7 ⟨z, hz⟩
      have S7 := Lib.hid (show Own w w7 [row 41 1 (.slice A1 i c1) i (u16s Lx), box w.heap.size 25 [.int .u8 (m : Nat), .slice (some ⟨b9, off9, none⟩) n' cp, .int .u32 tg]] by rw [hz]; exact z.own)
      clear hz z hne a0 a1 a2 a3 a4 K8 K9
      go_wp2_with fail
      go_ret2
      exact ⟨none, 0, by rw [HX.out]; rfl, by rw [HX.out]; exact ((S7.out.nil 41 1).sub [0] (by decide) rfl)⟩
    | some yd => as_aux_lemma =>
      obtain ⟨mg, d⟩ := yd
      obtain ⟨hmg, hd16⟩ := HDL.out mg d hra
      have HD2 := Lib.hid (fun W => (show Calls Tryd.prog 64 #[.int .u8 (m : Nat), .int .u16 (z : Nat)] W fun e w' => e = .returned (.tuple #[.int .u16 (mg : Nat), .int .i64 (d : Nat), .bool true]) ∧ Below W.heap.size W w' by have := HD.out W; rw [hra] at this; exact this))
      have HX := Lib.hid (runF_step I0.out (HF.out.trans hra))
      clear hra
      go_upto_region 7 with fail
      have a0 := fun z : OwnOf w [row 41 1 (.slice A1 i c1) i (u16s Lx), box w.heap.size 25 [.int .u8 (m : Nat), .slice (some ⟨b9, off9, none⟩) n' cp, .int .u32 tg]] => (z.bx 1 rfl).1 0 _ rfl
      have a1 := fun z : OwnOf w [row 41 1 (.slice A1 i c1) i (u16s Lx), box w.heap.size 25 [.int .u8 (m : Nat), .slice (some ⟨b9, off9, none⟩) n' cp, .int .u32 tg]] => K8.out z
      have a2 := fun z : OwnOf w [row 41 1 (.slice A1 i c1) i (u16s Lx), box w.heap.size 25 [.int .u8 (m : Nat), .slice (some ⟨b9, off9, none⟩) n' cp, .int .u32 tg]] => (z.bx 1 rfl).1 0 _ rfl
      have a3 := fun z : OwnOf w [row 41 1 (.slice A1 i c1) i (u16s Lx), box w.heap.size 25 [.int .u8 (m : Nat), .slice (some ⟨b9, off9, none⟩) n' cp, .int .u32 tg]] => (z.bx 1 rfl).1 1 _ rfl
      have a4 := fun z : OwnOf w [row 41 1 (.slice A1 i c1) i (u16s Lx), box w.heap.size 25 [.int .u8 (m : Nat), .slice (some ⟨b9, off9, none⟩) n' cp, .int .u32 tg]] => K9.out z
      have hne : Nonempty (OwnOf w [row 41 1 (.slice A1 i c1) i (u16s Lx), box w.heap.size 25 [.int .u8 (m : Nat), .slice (some ⟨b9, off9, none⟩) n' cp, .int .u32 tg]]) := ⟨⟨_, I2.out⟩⟩
      refine wp_region_own I2.out (by kernel_rfl) (by kernel_rfl) ?_
      iterate 12 (go_big_quiet_step (fail))
      go_big_quiet_step ((go_at_call 64; exact own_of (HD2.out _)))
      iterate 7 (go_big_quiet_step (fail))
      refine wpQuiet_nil ?_
      rintro w7 ⟨z, hz⟩
      have S7 := Lib.hid (show Own w w7 [row 41 1 (.slice A1 i c1) i (u16s Lx), box w.heap.size 25 [.int .u8 (m : Nat), .slice (some ⟨b9, off9, none⟩) n' cp, .int .u32 tg]] by rw [hz]; exact z.own)
      clear hz z hne a0 a1 a2 a3 a4 K8 K9
      go_wp2_with (at_builtin; refine wpList_appP rfl (.tmp 59) (.tmp 61) 22 rfl st22 0 (S7.out.ext (below_alloc w7 (.cells #[.int .u16 (mg : Nat)] 41))) rfl rfl rfl (i + 1) (u16s (Lx ++ [mg])) ?_ [.int .u16 (mg : Nat)] rfl (u16s_app Lx mg) (Rd.new _ #[.int .u16 (mg : Nat)] 41) rfl (by simp [Value.oneCell']) (by unfold maxLen; omega) (by omega); intro A9 c9 w9 hO9; have HO9 := Lib.hid hO9; clear hO9)
      go_roundg (gk - 1)
      case measure => have := I1.out; omega
      case rel => exact ⟨i + 1, A9, c9, by omega, rfl, by go_num, Lx ++ [mg], mm + d, HX.out, by have := I1.out; omega, w16_snoc I3.out hmg, HO9.out⟩
end Go.Proofs.YtnienfgaidccpaaDoor
