/- Sketch: Commit of the program and of the reference. No condition. -/
import Derived.Test.YtnienfgaidccpaaDoorKj
import Derived.Test.YtnienfgaidccpaaDoorSt
namespace Go.Proofs.YtnienfgaidccpaaDoor
open Go.RowKit Go.Shelf
attribute [local go_sem] Oper.semAt_some

def comB (k : Int) (t ms : List Nat) : Bool := kindB k && (tmplB t && (decide (ms.length = t.length) && ms.all fun m => decide (m < 2 ^ (kd k.toNat).k)))
/-- The help of the first i words. -/
def comN (c : Kd) (t ms : List Nat) (i : Nat) : List Nat := (List.range i).map fun j => t.getD j 0 ^^^ c.code (ms.getD j 0)
theorem comN_len (c : Kd) (t ms : List Nat) (i : Nat) : (comN c t ms i).length = i := by simp [comN]
theorem comN_snoc (c : Kd) {t ms : List Nat} {i : Nat} (h : i < t.length) (h' : i < ms.length) : comN c t ms (i + 1) = comN c t ms i ++ [t[i] ^^^ c.code ms[i]] := by
  unfold comN
  rw [List.range_succ, List.map_append]
  simp [List.getD, List.getElem?_eq_getElem h, List.getElem?_eq_getElem h']
/-- What Commit returns: kind, help, tag; the error's number. -/
def comR (k : Int) (t ms : List Nat) : Int × List Nat × Nat × Int := if comB k t ms = true then (k, comN (kd k.toNat) t ms t.length, tagF ms, 0) else (0, [], 0, 2)
def ComPost (r : Int × List Nat × Nat × Int) (w : World) (e : Ending) (w' : World) : Prop :=
  ∃ A c, e = .returned (.tuple #[.agg #[.int .u8 r.1, .slice A r.2.1.length c, .int .u32 (r.2.2.1 : Nat)], .int .i64 r.2.2.2]) ∧ Own w w' [row 41 1 (.slice A r.2.1.length c) r.2.1.length (u16s r.2.1)]
theorem w16_of {l : List Nat} {k : Nat} (hk : k ≤ 11) (h : ∀ x ∈ l, x < 2 ^ k) : W16 l := fun x hx => by
  have h1 := h x hx
  have h2 : 2 ^ k ≤ 2 ^ 11 := Nat.pow_le_pow_right (by decide) hk
  omega
set_option maxRecDepth 100000 in
set_option maxHeartbeats 4000000 in
theorem commit_any (k : Int) (t ms : List Nat) (A A' : Option Addr) (n n' cp cp' : Nat) (w : World) (hc : Cod w) (hk : 0 ≤ k ∧ k ≤ 255) (ht : Rd w A (u16s t)) (hs : Rd w A' (u16s ms)) (hn : n = t.length) (hn' : n' = ms.length) (hbig : n' ≤ 4611686018427387904) :
    Calls Tryd.prog 22 #[.int .u8 k, .slice A n cp, .slice A' n' cp'] w (ComPost (comR k t ms) w) := by
  have K57 := fun W (h : Cod W) => kind_any k W h hk
  have K58 := fun W (h : Rd W A (u16s t)) => template_any t A n cp W h hn
  have HFs := Lib.hid (fun W (h : Below w.heap.size w W) => hs.below h)
  have HFt := Lib.hid (fun W (h : Below w.heap.size w W) => ht.below h)
  have HCD := Lib.hid (fun W (h : Below w.heap.size w W) => hc.below h)
  have S0 := Lib.hid ((Own.start w).new 25 #[.int .u8 0, .slice none 0 0, .int .u32 0])
  cases hkb : kindB k
  · as_aux_lemma =>
    have HL := Lib.hid (show comR k t ms = (0, [], 0, 2) by simp [comR, comB, hkb])
    rw [hkb] at K57
    replace K57 := Lib.hid K57
    obtain ⟨g, q, tt, HG⟩ : ∃ g q tt : Int, Hid (kdV (kd k.toNat) = .agg #[.int .u16 g, .int .i64 q, .int .i64 tt]) := ⟨_, _, _, Lib.hid rfl⟩
    rw [HG.out] at K57
    clear hs ht hc hn hn' hkb HG K58
    go_enter Tryd.func22, Tryd.ntmps22
    go_upto_region 1 with fail
    generalize (w.alloc _) = w0 at *
    obtain ⟨r0, r1, r2, _⟩ := (S0.out.bx 0 rfl).c3
    have lr := (S0.out.bx 0 rfl).2.2
    go_wp2_with fail
    refine (K57.out _ (HCD.out _ S0.out.bel)).mono ?_
    rintro e w1 ⟨rfl, hb1⟩
    have S1 := Lib.hid (S0.out.ext hb1)
    clear hb1 r0 r1 r2 lr S0
    go_upto_region 2 with fail
    have S2 := Lib.hid (S1.out.new 94 #[.int .u16 g, .int .i64 q, .int .i64 tt])
    generalize w1.alloc _ = w2 at *
    generalize w1.heap.size = B8 at *
    clear S1
    obtain ⟨t0, t1, t2, _⟩ := (S2.out.bx 0 rfl).c3
    have lt := (S2.out.bx 0 rfl).2.2
    obtain ⟨r0, r1, r2, _⟩ := (S2.out.bx 1 rfl).c3
    have lr := (S2.out.bx 1 rfl).2.2
    go_wp2_with fail
    have S9 := (((S2.out.set 1 rfl 0 (.int .u8 0)).set 1 rfl 1 (.slice none 0 0)).set 1 rfl 2 (.int .u32 0))
    obtain ⟨v0, v1, v2, _⟩ := (S9.bx 1 rfl).c3
    refine bodyPost_ret (v := .tuple #[.agg #[.int .u8 0, .slice none 0 0, .int .u32 0], .int .i64 2]) (by simp [results, Tryd.results22, go_sem, *]) rfl ⟨none, 0, by rw [HL.out]; rfl, by rw [HL.out]; exact ((S9.nil 41 1).sub [0] (by decide) rfl)⟩
  obtain ⟨m, hm, hm1, hm3, hmt⟩ := kind_bd hkb
  have hok := kd_ok hm1 hm3
  have HRR := Lib.hid (show comB k t ms = (tmplB t && (decide (ms.length = t.length) && ms.all fun m' => decide (m' < 2 ^ (kd m).k))) by simp [comB, hkb, hmt])
  have HRO := Lib.hid (show comR k t ms = if comB k t ms = true then (k, comN (kd m) t ms t.length, tagF ms, 0) else (0, [], 0, 2) by rw [comR, hmt])
  rw [hkb, hmt] at K57
  have K66 := fun W (h : Rd W A' (u16s ms)) => message_any (kd m) hok ms A' n' cp' W h hn' hbig
  have HCO := Lib.hid (fun x (hx : x < 2 ^ (kd m).k) W => encode_any (kd m) hok x hx W)
  have HCL := Lib.hid (fun x (hx : x < 2 ^ (kd m).k) => Kd.code_lt hok hx)
  have hsum := hok.sum
  generalize kd m = c at *
  unfold kdV at K57 K66 HCO
  replace K57 := Lib.hid K57
  clear hm hmt hkb hok
  cases htb : tmplB t
  · as_aux_lemma =>
    have HL := Lib.hid (show comR k t ms = (0, [], 0, 2) by rw [HRO.out, HRR.out, htb]; rfl)
    rw [htb] at K58
    replace K58 := Lib.hid K58
    clear hs ht hc hn hn' htb K66
    go_enter Tryd.func22, Tryd.ntmps22
    go_upto_region 1 with fail
    generalize (w.alloc _) = w0 at *
    obtain ⟨r0, r1, r2, _⟩ := (S0.out.bx 0 rfl).c3
    have lr := (S0.out.bx 0 rfl).2.2
    go_wp2_with fail
    refine (K57.out _ (HCD.out _ S0.out.bel)).mono ?_
    rintro e w1 ⟨rfl, hb1⟩
    have S1 := Lib.hid (S0.out.ext hb1)
    clear hb1 r0 r1 r2 lr S0
    go_upto_region 2 with fail
    have S2 := Lib.hid (S1.out.new 94 #[.int .u16 c.g, .int .i64 c.k, .int .i64 c.t])
    generalize w1.alloc _ = w2 at *
    generalize w1.heap.size = B8 at *
    clear S1
    obtain ⟨t0, t1, t2, _⟩ := (S2.out.bx 0 rfl).c3
    have lt := (S2.out.bx 0 rfl).2.2
    obtain ⟨r0, r1, r2, _⟩ := (S2.out.bx 1 rfl).c3
    have lr := (S2.out.bx 1 rfl).2.2
    go_wp2_with fail
    refine (K58.out _ (HFt.out _ S2.out.bel)).mono ?_
    rintro e w3 ⟨rfl, rfl⟩
    go_wp2_with fail
    have S9 := (((S2.out.set 1 rfl 0 (.int .u8 0)).set 1 rfl 1 (.slice none 0 0)).set 1 rfl 2 (.int .u32 0))
    obtain ⟨v0, v1, v2, _⟩ := (S9.bx 1 rfl).c3
    refine bodyPost_ret (v := .tuple #[.agg #[.int .u8 0, .slice none 0 0, .int .u32 0], .int .i64 2]) (by simp [results, Tryd.results22, go_sem, *]) rfl ⟨none, 0, by rw [HL.out]; rfl, by rw [HL.out]; exact ((S9.nil 41 1).sub [0] (by decide) rfl)⟩
  rw [htb] at K58
  replace K58 := Lib.hid K58
  by_cases hlen : n' = n
  case neg => as_aux_lemma =>
    have HL := Lib.hid (show comR k t ms = (0, [], 0, 2) by rw [HRO.out, HRR.out, decide_eq_false (by omega)]; simp)
    have hne : ¬ (n' : Int) = (n : Int) := by omega
    clear hs ht hc hn hn' htb K66 hlen
    go_enter Tryd.func22, Tryd.ntmps22
    go_upto_region 1 with fail
    generalize (w.alloc _) = w0 at *
    obtain ⟨r0, r1, r2, _⟩ := (S0.out.bx 0 rfl).c3
    have lr := (S0.out.bx 0 rfl).2.2
    go_wp2_with fail
    refine (K57.out _ (HCD.out _ S0.out.bel)).mono ?_
    rintro e w1 ⟨rfl, hb1⟩
    have S1 := Lib.hid (S0.out.ext hb1)
    clear hb1 r0 r1 r2 lr S0
    go_upto_region 2 with fail
    have S2 := Lib.hid (S1.out.new 94 #[.int .u16 c.g, .int .i64 c.k, .int .i64 c.t])
    generalize w1.alloc _ = w2 at *
    generalize w1.heap.size = B8 at *
    clear S1
    obtain ⟨t0, t1, t2, _⟩ := (S2.out.bx 0 rfl).c3
    have lt := (S2.out.bx 0 rfl).2.2
    obtain ⟨r0, r1, r2, _⟩ := (S2.out.bx 1 rfl).c3
    have lr := (S2.out.bx 1 rfl).2.2
    go_wp2_with fail
    refine (K58.out _ (HFt.out _ S2.out.bel)).mono ?_
    rintro e w3 ⟨rfl, rfl⟩
    go_wp2_with fail
    have S9 := (((S2.out.set 1 rfl 0 (.int .u8 0)).set 1 rfl 1 (.slice none 0 0)).set 1 rfl 2 (.int .u32 0))
    obtain ⟨v0, v1, v2, _⟩ := (S9.bx 1 rfl).c3
    refine bodyPost_ret (v := .tuple #[.agg #[.int .u8 0, .slice none 0 0, .int .u32 0], .int .i64 2]) (by simp [results, Tryd.results22, go_sem, *]) rfl ⟨none, 0, by rw [HL.out]; rfl, by rw [HL.out]; exact ((S9.nil 41 1).sub [0] (by decide) rfl)⟩
  subst hlen
  cases hsb : ms.all fun m' => decide (m' < 2 ^ c.k)
  · as_aux_lemma =>
    have HL := Lib.hid (show comR k t ms = (0, [], 0, 2) by rw [HRO.out, HRR.out, hsb]; simp)
    rw [hsb] at K66
    replace K66 := Lib.hid K66
    clear hs ht hc hn hn' htb hsb
    go_enter Tryd.func22, Tryd.ntmps22
    go_upto_region 1 with fail
    generalize (w.alloc _) = w0 at *
    obtain ⟨r0, r1, r2, _⟩ := (S0.out.bx 0 rfl).c3
    have lr := (S0.out.bx 0 rfl).2.2
    go_wp2_with fail
    refine (K57.out _ (HCD.out _ S0.out.bel)).mono ?_
    rintro e w1 ⟨rfl, hb1⟩
    have S1 := Lib.hid (S0.out.ext hb1)
    clear hb1 r0 r1 r2 lr S0
    go_upto_region 2 with fail
    have S2 := Lib.hid (S1.out.new 94 #[.int .u16 c.g, .int .i64 c.k, .int .i64 c.t])
    generalize w1.alloc _ = w2 at *
    generalize w1.heap.size = B8 at *
    clear S1
    obtain ⟨t0, t1, t2, _⟩ := (S2.out.bx 0 rfl).c3
    have lt := (S2.out.bx 0 rfl).2.2
    obtain ⟨r0, r1, r2, _⟩ := (S2.out.bx 1 rfl).c3
    have lr := (S2.out.bx 1 rfl).2.2
    go_wp2_with fail
    refine (K58.out _ (HFt.out _ S2.out.bel)).mono ?_
    rintro e w3 ⟨rfl, rfl⟩
    go_wp2_with fail
    refine (K66.out _ (HFs.out _ S2.out.bel)).mono ?_
    rintro e w4 ⟨rfl, hb4⟩
    have S4 := Lib.hid (S2.out.ext hb4)
    clear hb4 t0 t1 t2 lt r0 r1 r2 lr S2
    obtain ⟨t0, t1, t2, _⟩ := (S4.out.bx 0 rfl).c3
    have lt := (S4.out.bx 0 rfl).2.2
    obtain ⟨r0, r1, r2, _⟩ := (S4.out.bx 1 rfl).c3
    have lr := (S4.out.bx 1 rfl).2.2
    go_wp2_with fail
    have S9 := (((S4.out.set 1 rfl 0 (.int .u8 0)).set 1 rfl 1 (.slice none 0 0)).set 1 rfl 2 (.int .u32 0))
    obtain ⟨v0, v1, v2, _⟩ := (S9.bx 1 rfl).c3
    refine bodyPost_ret (v := .tuple #[.agg #[.int .u8 0, .slice none 0 0, .int .u32 0], .int .i64 2]) (by simp [results, Tryd.results22, go_sem, *]) rfl ⟨none, 0, by rw [HL.out]; rfl, by rw [HL.out]; exact ((S9.nil 41 1).sub [0] (by decide) rfl)⟩
  rw [hsb] at K66
  replace K66 := Lib.hid K66
  obtain ⟨l1, l4, l15⟩ := tmpl_bd htb
  have HL := Lib.hid (show comR k t ms = (k, comN c t ms n', tagF ms, 0) by rw [HRO.out, HRR.out, htb, hsb, decide_eq_true (by omega), hn]; rfl)
  have HSB := Lib.hid (fun x (hx : x ∈ ms) => (of_decide_eq_true (List.all_eq_true.1 hsb x hx) : x < 2 ^ c.k))
  have HTG := Lib.hid (fun W (h : Rd W A' (u16s ms)) => tag_any ms A' n' cp' W h hn' (w16_of hsum.2.2.1 HSB.out) hbig)
  have HLB := Lib.hid l15
  have HN := Lib.hid hn
  have HN' := Lib.hid hn'
  have hn1 : 1 ≤ n' := by omega
  have hn4 : n' ≤ 4 := by omega
  have HTL := Lib.hid (tagF_lt ms)
  clear hs ht hc hn hn' htb hsb l1 l4 l15 HRR HRO hbig hsum
  generalize tagF ms = tg at *
  as_aux_lemma =>
  go_enter Tryd.func22, Tryd.ntmps22
  go_upto_region 1 with fail
  generalize (w.alloc _) = w0 at *
  obtain ⟨r0, r1, r2, _⟩ := (S0.out.bx 0 rfl).c3
  have lr := (S0.out.bx 0 rfl).2.2
  go_wp2_with fail
  refine (K57.out _ (HCD.out _ S0.out.bel)).mono ?_
  rintro e w1 ⟨rfl, hb1⟩
  have S1 := Lib.hid (S0.out.ext hb1)
  clear hb1 r0 r1 r2 lr S0
  go_upto_region 2 with fail
  have S2 := Lib.hid (S1.out.new 94 #[.int .u16 c.g, .int .i64 c.k, .int .i64 c.t])
  generalize w1.alloc _ = w2 at *
  generalize w1.heap.size = B8 at *
  clear S1
  obtain ⟨t0, t1, t2, _⟩ := (S2.out.bx 0 rfl).c3
  have lt := (S2.out.bx 0 rfl).2.2
  obtain ⟨r0, r1, r2, _⟩ := (S2.out.bx 1 rfl).c3
  have lr := (S2.out.bx 1 rfl).2.2
  go_wp2_with fail
  refine (K58.out _ (HFt.out _ S2.out.bel)).mono ?_
  rintro e w3 ⟨rfl, rfl⟩
  go_wp2_with fail
  refine (K66.out _ (HFs.out _ S2.out.bel)).mono ?_
  rintro e w4 ⟨rfl, hb4⟩
  have S4 := Lib.hid (S2.out.ext hb4)
  clear hb4 t0 t1 t2 lt r0 r1 r2 lr S2
  obtain ⟨t0, t1, t2, _⟩ := (S4.out.bx 0 rfl).c3
  have lt := (S4.out.bx 0 rfl).2.2
  obtain ⟨r0, r1, r2, _⟩ := (S4.out.bx 1 rfl).c3
  have lr := (S4.out.bx 1 rfl).2.2
  go_wp2_with fail
  refine (HTG.out _ (HFs.out _ S4.out.bel)).mono ?_
  rintro e w5 ⟨rfl, rfl⟩
  go_upto_region 5 with fail
  have S5 := Lib.hid (S4.out.new 25 #[.int .u8 k, .slice none 0 0, .int .u32 (tg : Nat)])
  generalize w4.alloc _ = w6 at *
  generalize w4.heap.size = B10 at *
  have S6 := Lib.hid ((S5.out.nil 41 1).cast (qs := [row 41 1 (.slice none 0 0) 0 (u16s (comN c t ms 0)), box B10 25 [.int .u8 k, .slice none 0 0, .int .u32 (tg : Nat)], box B8 94 [.int .u16 c.g, .int .i64 c.k, .int .i64 c.t], box w.heap.size 25 [.int .u8 0, .slice none 0 0, .int .u32 0]]) rfl)
  clear S4 S5 t0 t1 t2 lt r0 r1 r2 lr
  go_wp2_with fail
  go_loopg [45] n' (fun q u45 wr => ∃ (i : Nat) (A1 : Option Addr) (c1 : Nat), i ≤ n' ∧ u45 = .int .i64 (i : Nat) ∧ Hid (i + q = n' ∧ Own w wr [row 41 1 (.slice A1 i c1) i (u16s (comN c t ms i)), box B10 25 [.int .u8 k, .slice A1 i c1, .int .u32 (tg : Nat)], box B8 94 [.int .u16 c.g, .int .i64 c.k, .int .i64 c.t], box w.heap.size 25 [.int .u8 0, .slice none 0 0, .int .u32 0]]))
  case atStart => exact ⟨0, none, 0, by omega, rfl, by omega, S6.out⟩
  case round =>
    obtain ⟨i, A1, c1, hi, rfl, hI⟩ := hrel
    have I1 := Lib.hid hI.out.1
    have I2 := Lib.hid hI.out.2
    clear hI S6
    by_cases hlt : i < n'
    case neg => as_aux_lemma =>
      have HE := Lib.hid (show comR k t ms = (k, comN c t ms i, tg, 0) by rw [HL.out, show n' = i by omega])
      have hni : ¬ (i : Int) < (n' : Int) := by omega
      obtain ⟨s0, s1, s2, _⟩ := (I2.out.bx 1 rfl).c3
      have ls := (I2.out.bx 1 rfl).2.2
      obtain ⟨r0, r1, r2, _⟩ := (I2.out.bx 3 rfl).c3
      have lr := (I2.out.bx 3 rfl).2.2
      go_wp2_with fail
      have S9 := (((I2.out.set 3 rfl 0 (.int .u8 k)).set 3 rfl 1 (.slice A1 i c1)).set 3 rfl 2 (.int .u32 (tg : Nat)))
      obtain ⟨v0, v1, v2, _⟩ := (S9.bx 3 rfl).c3
      have hlen := comN_len c t ms i
      refine bodyPost_ret (v := .tuple #[.agg #[.int .u8 k, .slice A1 i c1, .int .u32 (tg : Nat)], .int .i64 0]) (by simp [results, Tryd.results22, go_sem, *]) rfl ⟨A1, c1, by rw [HE.out, hlen], by rw [HE.out, hlen]; exact (S9.sub [0] (by decide) rfl)⟩
    have hil : i < t.length := by rw [← HN.out]; exact hlt
    have hil2 : i < ms.length := by rw [← HN'.out]; exact hlt
    have hix : (i : Int) < (n' : Int) := by omega
    obtain ⟨b0, off, rfl, k0, l0⟩ := (HFt.out _ I2.out.bel).u16 hil
    have hx15 := HLB.out t[i] (List.getElem_mem hil)
    have hmk := HSB.out _ (List.getElem_mem hil2)
    have hcl := HCL.out _ hmk
    have HSK := Lib.hid (fun W (h : Below w.heap.size w W) => (HFs.out W h).u16 hil2)
    have e1 : bits .xor .u16 (t[i] : Int) (c.code ms[i] : Int) = ((t[i] ^^^ c.code ms[i] : Nat) : Int) := u16_xor_nat _ _ (by omega) (by omega)
    have K68 := Lib.hid (HCO.out ms[i] hmk)
    have HP := Lib.hid (comN_snoc c hil hil2)
    have HP2 := Lib.hid (show u16s (comN c t ms i) ++ [.int .u16 ((t[i] ^^^ c.code ms[i] : Nat) : Int)] = u16s (comN c t ms (i + 1)) by rw [HP.out, u16s_app])
    generalize t[i] ^^^ c.code ms[i] = y at *
    generalize c.code ms[i] = cw at *
    clear HP hmk
    generalize t[i] = x at *
    generalize ms[i] = mg at *
    obtain ⟨b9, off9, rfl, k9, l9⟩ := HSK.out _ I2.out.bel
    replace HSK := Lib.hid (fun W (h : Below w.heap.size w W) => (show W.cell? ⟨b9, off9 + i, none⟩ = some (.int .u16 (mg : Nat)) ∧ b9 < W.heap.size by obtain ⟨b, o, e, h, hl⟩ := HSK.out W h; simp only [Option.some.injEq, Addr.mk.injEq] at e; obtain ⟨rfl, rfl, _⟩ := e; exact ⟨h, hl⟩))
    clear k9 l9
    as_aux_lemma =>
    go_upto_region 8 with fail
    refine wp_region_state 65 [(50, .pointer (some ⟨B10, 1, none⟩)), (51, .slice A1 i c1), (52, .int .u16 (x : Nat)), (53, .agg #[.int .u16 c.g, .int .i64 c.k, .int .i64 c.t]), (54, (.slice (some ⟨b9, off9, none⟩) n' cp')), (55, .int .i64 (i : Nat)), (56, .pointer (some ⟨b9, off9 + i, none⟩)), (57, .int .u16 (mg : Nat)), (58, .int .u16 (cw : Nat)), (59, .int .u16 (y : Nat)), (62, .pointer (some ⟨B10, 1, none⟩))] (fun L vs w' => Own w w' [cond (L 11) (row 41 1 (vs 61) (i + 1) (u16s (comN c t ms (i + 1)))) (row 41 1 (.slice A1 i c1) i (u16s (comN c t ms i))), box B10 25 [.int .u8 k, cond (L 13) (vs 61) (.slice A1 i c1), .int .u32 (tg : Nat)], box B8 94 [.int .u16 c.g, .int .i64 c.k, .int .i64 c.t], box w.heap.size 25 [.int .u8 0, .slice none 0 0, .int .u32 0], cond (L 10) (row 41 1 (vs 60) 1 [.int .u16 (y : Nat)]) (row 41 1 (.slice none 0 0) 0 [])]) (by kernel_rfl) (by kernel_rfl) [50, 51, 52, 53, 54, 55, 56, 57, 58, 59, 60, 61, 62] (by kernel_rfl) rfl (by kernel_rfl) 14 rfl ?_ ?_ ?_
    · exact fun L hL => (((I2.out.nil 41 1).sub [1, 2, 3, 4, 0] (by decide) (qs := [row 41 1 (.slice A1 i c1) i (u16s (comN c t ms i)), box B10 25 [.int .u8 k, .slice A1 i c1, .int .u32 (tg : Nat)], box B8 94 [.int .u16 c.g, .int .i64 c.k, .int .i64 c.t], box w.heap.size 25 [.int .u8 0, .slice none 0 0, .int .u32 0], row 41 1 (.slice none 0 0) 0 []]) rfl).ext (Below.refl _ _).drew).cast (by simp [hL 10 (by decide), hL 11 (by decide), hL 13 (by decide)])
    · refine ⟨StepS.of [] (by kernel_rfl) ?_, ?_⟩
      · intro L vs wq hL hA hC hJ
        unfold forAll
        exact StepV.val 50 (by kernel_rfl) (by kernel_rfl) rfl (by simp) rfl rfl hJ
      refine ⟨StepS.of [50] (by kernel_rfl) ?_, ?_⟩
      · intro L vs wq hL hA hC hJ h50
        rw [(show vs 50 = .pointer (some ⟨B10, 1, none⟩) from h50)]
        unfold forAll
        have hs := hC.no (j := 13) (i := 1) (by kernel_rfl) hL
        have t2 := (hJ.bx 1 rfl).1 1 _ rfl
        rw [hs] at t2
        simp only [cond_false] at t2
        exact StepV.val 51 (by kernel_rfl) (by go_simp) rfl (by simp [Act.put]) rfl rfl hJ
      refine ⟨StepS.of [] (by kernel_rfl) ?_, ?_⟩
      · intro L vs wq hL hA hC hJ
        unfold forAll
        exact StepV.val 52 (by kernel_rfl) (by kernel_rfl) rfl (by simp) rfl rfl hJ
      refine ⟨StepS.of [] (by kernel_rfl) ?_, ?_⟩
      · intro L vs wq hL hA hC hJ
        unfold forAll
        obtain ⟨t0, t1, t2, _⟩ := (hJ.bx 2 rfl).c3
        exact StepV.val 53 (by kernel_rfl) (by go_simp) rfl (by simp) rfl rfl hJ
      refine ⟨StepS.of [] (by kernel_rfl) ?_, ?_⟩
      · intro L vs wq hL hA hC hJ
        unfold forAll
        exact StepV.val 54 (by kernel_rfl) (by kernel_rfl) rfl (by simp) rfl rfl hJ
      refine ⟨StepS.of [] (by kernel_rfl) ?_, ?_⟩
      · intro L vs wq hL hA hC hJ
        unfold forAll
        exact StepV.val 55 (by kernel_rfl) (by kernel_rfl) rfl (by simp) rfl rfl hJ
      refine ⟨StepS.of [54, 55] (by kernel_rfl) ?_, ?_⟩
      · intro L vs wq hL hA hC hJ h54 h55
        rw [(show vs 54 = (.slice (some ⟨b9, off9, none⟩) n' cp') from h54), (show vs 55 = .int .i64 (i : Nat) from h55)]
        unfold forAll
        obtain ⟨kk, lk⟩ := HSK.out _ hJ.bel
        exact StepV.val 56 (by kernel_rfl) (by go_simp) rfl (by simp [Act.put]) rfl rfl hJ
      refine ⟨StepS.of [56] (by kernel_rfl) ?_, ?_⟩
      · intro L vs wq hL hA hC hJ h56
        rw [(show vs 56 = .pointer (some ⟨b9, off9 + i, none⟩) from h56)]
        unfold forAll
        obtain ⟨kk, lk⟩ := HSK.out _ hJ.bel
        exact StepV.val 57 (by kernel_rfl) (by go_simp) rfl (by simp [Act.put]) rfl rfl hJ
      refine ⟨StepS.of [53, 57] (by kernel_rfl) ?_, ?_⟩
      · intro L vs wq hL hA hC hJ h53 h57
        rw [(show vs 53 = .agg #[.int .u16 c.g, .int .i64 c.k, .int .i64 c.t] from h53), (show vs 57 = .int .u16 (mg : Nat) from h57)]
        unfold forAll
        refine StepV.call (f := 68) (args := #[.agg #[.int .u16 c.g, .int .i64 c.k, .int .i64 c.t], .int .u16 (mg : Nat)]) (w1 := wq) 58 (by kernel_rfl) (by kernel_rfl) rfl (by simp [Act.put]) rfl ?_
        refine (K68.out _).mono ?_
        rintro e w8 ⟨rfl, hb8⟩
        exact ⟨_, rfl, rfl, hJ.ext hb8⟩
      refine ⟨StepS.of [52, 58] (by kernel_rfl) ?_, ?_⟩
      · intro L vs wq hL hA hC hJ h52 h58
        rw [(show vs 52 = .int .u16 (x : Nat) from h52), (show vs 58 = .int .u16 (cw : Nat) from h58)]
        unfold forAll
        exact StepV.val 59 (by kernel_rfl) (by go_simp) rfl (by simp [Act.put]) rfl rfl hJ
      refine ⟨StepS.of [59] (by kernel_rfl) ?_, ?_⟩
      · intro L vs wq hL hA hC hJ h59
        rw [(show vs 59 = .int .u16 (y : Nat) from h59)]
        unfold forAll
        have ha := hC.no (j := 11) (i := 10) (by kernel_rfl) hL
        have hs := hC.no (j := 13) (i := 10) (by kernel_rfl) hL
        have K := Own.cast (qs := [row 41 1 (.slice A1 i c1) i (u16s (comN c t ms i)), box B10 25 [.int .u8 k, .slice A1 i c1, .int .u32 (tg : Nat)], box B8 94 [.int .u16 c.g, .int .i64 c.k, .int .i64 c.t], box w.heap.size 25 [.int .u8 0, .slice none 0 0, .int .u32 0], row 41 1 (.slice none 0 0) 0 []]) hJ (by simp [hL, ha, hs])
        have K2 := (K.new' 41 #[.int .u16 (y : Nat)] (B := wq.heap.size) rfl).asRow (size := 1) (n := 1) 0 rfl rfl (by unfold maxLen; omega)
        have K3 := K2.sub [1, 2, 3, 4, 0] (by decide) (qs := [row 41 1 (.slice A1 i c1) i (u16s (comN c t ms i)), box B10 25 [.int .u8 k, .slice A1 i c1, .int .u32 (tg : Nat)], box B8 94 [.int .u16 c.g, .int .i64 c.k, .int .i64 c.t], box w.heap.size 25 [.int .u8 0, .slice none 0 0, .int .u32 0], row 41 1 (.slice (some ⟨wq.heap.size, 0, none⟩) 1 1) 1 [.int .u16 (y : Nat)]]) rfl
        exact StepV.val 60 (v := .slice (some ⟨wq.heap.size, 0, none⟩) 1 1) (w' := wq.alloc (.cells #[.int .u16 (y : Nat)] 41)) (by kernel_rfl) (by go_simp) rfl (by simp [Act.put]) rfl trivial (K3.cast (by simp [upd, updv, ha, hs]))
      refine ⟨StepS.of [51, 60] (by kernel_rfl) ?_, ?_⟩
      · intro L vs wq hL hA hC hJ h51 h60
        rw [(show vs 51 = .slice A1 i c1 from h51)]
        unfold forAll
        have hb := afterS hA (i := 10) (by kernel_rfl)
        have hs := hC.no (j := 13) (i := 11) (by kernel_rfl) hL
        have K := Own.cast (qs := [row 41 1 (.slice A1 i c1) i (u16s (comN c t ms i)), box B10 25 [.int .u8 k, .slice A1 i c1, .int .u32 (tg : Nat)], box B8 94 [.int .u16 c.g, .int .i64 c.k, .int .i64 c.t], box w.heap.size 25 [.int .u8 0, .slice none 0 0, .int .u32 0], row 41 1 (vs 60) 1 [.int .u16 (y : Nat)]]) hJ (by simp [hL, hb, hs])
        obtain ⟨A8, c8, e8, ho8⟩ := rd_of_own (K.get 4 rfl)
        rw [e8]
        refine StepV.app 61 rfl (.tmp 51) (.tmp 60) 22 rfl rfl (by simp [Act.put]) rfl st22 0 K rfl (by simp [Act.eval, Act.put]) (by simp [Act.eval, Act.put]; rfl) (i + 1) (u16s (comN c t ms (i + 1))) [.int .u16 (y : Nat)] rfl (HP2.out) ho8.rd rfl (by simp [Value.oneCell']) (by unfold maxLen; omega) (by omega) ?_
        intro A9 c9 w9 hO9
        exact ⟨trivial, hO9.cast (by simp [upd, updv, hb, hs, e8])⟩
      refine ⟨StepS.of [] (by kernel_rfl) ?_, ?_⟩
      · intro L vs wq hL hA hC hJ
        unfold forAll
        exact StepV.val 62 (by kernel_rfl) (by kernel_rfl) rfl (by simp) rfl rfl hJ
      refine ⟨StepS.of [62, 61] (by kernel_rfl) ?_, ?_⟩
      · intro L vs wq hL hA hC hJ h62 h61
        rw [(show vs 62 = .pointer (some ⟨B10, 1, none⟩) from h62)]
        unfold forAll
        have ha := afterS hA (i := 11) (by kernel_rfl)
        have hb := hC.yes (j := 11) (i := 10) (by kernel_rfl) ha
        have K := Own.cast (qs := [row 41 1 (vs 61) (i + 1) (u16s (comN c t ms (i + 1))), box B10 25 [.int .u8 k, .slice A1 i c1, .int .u32 (tg : Nat)], box B8 94 [.int .u16 c.g, .int .i64 c.k, .int .i64 c.t], box w.heap.size 25 [.int .u8 0, .slice none 0 0, .int .u32 0], row 41 1 (vs 60) 1 [.int .u16 (y : Nat)]]) hJ (by simp [hL, hb, ha])
        obtain ⟨A9, c9, e9, _⟩ := rd_of_own (K.get 0 rfl)
        rw [e9]
        have t0 := (K.bx 1 rfl).1 1 _ rfl
        have tf := (K.bx 1 rfl).2.1
        have tl := (K.bx 1 rfl).2.2
        exact StepV.skip (by kernel_rfl) (by go_simp) rfl rfl ((K.set 1 rfl 1 (.slice A9 (i + 1) c9)).cast (by simp [upd, hb, ha, e9]))
      exact trivial
    · intro vs v9 hJ h50 h51 h52 h53 h54 h55 h56 h57 h58 h59 h60 h61 h62
      rw [(show vs 50 = .pointer (some ⟨B10, 1, none⟩) from h50), (show vs 51 = .slice A1 i c1 from h51), (show vs 52 = .int .u16 (x : Nat) from h52), (show vs 53 = .agg #[.int .u16 c.g, .int .i64 c.k, .int .i64 c.t] from h53), (show vs 54 = (.slice (some ⟨b9, off9, none⟩) n' cp') from h54), (show vs 55 = .int .i64 (i : Nat) from h55), (show vs 56 = .pointer (some ⟨b9, off9 + i, none⟩) from h56), (show vs 57 = .int .u16 (mg : Nat) from h57), (show vs 58 = .int .u16 (cw : Nat) from h58), (show vs 59 = .int .u16 (y : Nat) from h59), (show vs 62 = .pointer (some ⟨B10, 1, none⟩) from h62)]
      clear h50 h51 h52 h53 h54 h55 h56 h57 h58 h59 h60 h61 h62
      have K := Own.cast (qs := [row 41 1 (vs 61) (i + 1) (u16s (comN c t ms (i + 1))), box B10 25 [.int .u8 k, vs 61, .int .u32 (tg : Nat)], box B8 94 [.int .u16 c.g, .int .i64 c.k, .int .i64 c.t], box w.heap.size 25 [.int .u8 0, .slice none 0 0, .int .u32 0], row 41 1 (vs 60) 1 [.int .u16 (y : Nat)]]) hJ rfl
      obtain ⟨A9, c9, e0, _⟩ := rd_of_own (K.get 0 rfl)
      obtain ⟨_, _, f0, _⟩ := rd_of_own (K.get 4 rfl)
      rw [e0] at K
      rw [e0, f0]
      have S9 := Lib.hid (K.sub [0, 1, 2, 3] (by decide) (qs := [row 41 1 (.slice A9 (i + 1) c9) (i + 1) (u16s (comN c t ms (i + 1))), box B10 25 [.int .u8 k, .slice A9 (i + 1) c9, .int .u32 (tg : Nat)], box B8 94 [.int .u16 c.g, .int .i64 c.k, .int .i64 c.t], box w.heap.size 25 [.int .u8 0, .slice none 0 0, .int .u32 0]]) rfl)
      clear K hJ e0 f0
      unfold forAll
      simp only [Act.put, List.setIfInBounds_toArray, List.set_cons_zero, List.set_cons_succ]
      clear I2
      go_wp2_with fail
      go_roundg (gk - 1)
      case measure => have := I1.out; omega
      case rel => exact ⟨i + 1, A9, c9, by omega, by go_num, by have := I1.out; omega, S9.out⟩
set_option maxRecDepth 100000 in
set_option maxHeartbeats 4000000 in
theorem refCommit_any (k : Int) (t ms : List Nat) (A A' : Option Addr) (n n' cp cp' : Nat) (w : World) (ht : Rd w A (u16s t)) (hs : Rd w A' (u16s ms)) (hn : n = t.length) (hn' : n' = ms.length) (hbig : n' ≤ 4611686018427387904) (hw : W16 ms) :
    Calls Tryd.prog 23 #[.int .u8 k, .slice A n cp, .slice A' n' cp'] w (ComPost (comR k t ms) w) := by
  have K29 := fun W => Kind_any k W
  have K46 := fun W (h : Rd W A (u16s t)) => refTemplate_any t A n cp W h hn
  have HFs := Lib.hid (fun W (h : Below w.heap.size w W) => hs.below h)
  have HFt := Lib.hid (fun W (h : Below w.heap.size w W) => ht.below h)
  have S0 := Lib.hid ((Own.start w).new 25 #[.int .u8 0, .slice none 0 0, .int .u32 0])
  cases hkb : kindB k
  · as_aux_lemma =>
    have HL := Lib.hid (show comR k t ms = (0, [], 0, 2) by simp [comR, comB, hkb])
    rw [hkb] at K29
    replace K29 := Lib.hid K29
    clear hs ht hn hn' hkb K46 hw
    go_enter Tryd.func23, Tryd.ntmps23
    go_upto_region 1 with fail
    generalize (w.alloc _) = w0 at *
    obtain ⟨r0, r1, r2, _⟩ := (S0.out.bx 0 rfl).c3
    have lr := (S0.out.bx 0 rfl).2.2
    go_wp2_with fail
    refine (K29.out _).mono ?_
    rintro e w1 ⟨rfl, hb1⟩
    have S1 := Lib.hid (S0.out.ext hb1)
    clear hb1 r0 r1 r2 lr S0
    obtain ⟨r0, r1, r2, _⟩ := (S1.out.bx 0 rfl).c3
    have lr := (S1.out.bx 0 rfl).2.2
    go_wp2_with fail
    have S9 := (((S1.out.set 0 rfl 0 (.int .u8 0)).set 0 rfl 1 (.slice none 0 0)).set 0 rfl 2 (.int .u32 0))
    obtain ⟨v0, v1, v2, _⟩ := (S9.bx 0 rfl).c3
    refine bodyPost_ret (v := .tuple #[.agg #[.int .u8 0, .slice none 0 0, .int .u32 0], .int .i64 2]) (by simp [results, Tryd.results23, go_sem, *]) rfl ⟨none, 0, by rw [HL.out]; rfl, by rw [HL.out]; exact ((S9.nil 41 1).sub [0] (by decide) rfl)⟩
  obtain ⟨m, hm, hm1, hm3, hmt⟩ := kind_bd hkb
  have hok := kd_ok hm1 hm3
  have HRR := Lib.hid (show comB k t ms = (tmplB t && (decide (ms.length = t.length) && ms.all fun m' => decide (m' < 2 ^ (kd m).k))) by simp [comB, hkb, hmt])
  have HRO := Lib.hid (show comR k t ms = if comB k t ms = true then (k, comN (kd m) t ms t.length, tagF ms, 0) else (0, [], 0, 2) by rw [comR, hmt])
  rw [hkb] at K29
  replace K29 := Lib.hid K29
  cases htb : tmplB t
  · as_aux_lemma =>
    have HL := Lib.hid (show comR k t ms = (0, [], 0, 2) by rw [HRO.out, HRR.out, htb]; rfl)
    rw [htb] at K46
    replace K46 := Lib.hid K46
    clear hs ht hn hn' htb hw hkb hm hmt hok
    go_enter Tryd.func23, Tryd.ntmps23
    go_upto_region 1 with fail
    generalize (w.alloc _) = w0 at *
    obtain ⟨r0, r1, r2, _⟩ := (S0.out.bx 0 rfl).c3
    have lr := (S0.out.bx 0 rfl).2.2
    go_wp2_with fail
    refine (K29.out _).mono ?_
    rintro e w1 ⟨rfl, hb1⟩
    have S1 := Lib.hid (S0.out.ext hb1)
    clear hb1 r0 r1 r2 lr S0
    obtain ⟨r0, r1, r2, _⟩ := (S1.out.bx 0 rfl).c3
    have lr := (S1.out.bx 0 rfl).2.2
    go_wp2_with fail
    refine (K46.out _ (HFt.out _ S1.out.bel)).mono ?_
    rintro e w3 ⟨rfl, rfl⟩
    go_wp2_with fail
    have S9 := (((S1.out.set 0 rfl 0 (.int .u8 0)).set 0 rfl 1 (.slice none 0 0)).set 0 rfl 2 (.int .u32 0))
    obtain ⟨v0, v1, v2, _⟩ := (S9.bx 0 rfl).c3
    refine bodyPost_ret (v := .tuple #[.agg #[.int .u8 0, .slice none 0 0, .int .u32 0], .int .i64 2]) (by simp [results, Tryd.results23, go_sem, *]) rfl ⟨none, 0, by rw [HL.out]; rfl, by rw [HL.out]; exact ((S9.nil 41 1).sub [0] (by decide) rfl)⟩
  rw [htb] at K46
  replace K46 := Lib.hid K46
  by_cases hlen : n' = n
  case neg => as_aux_lemma =>
    have HL := Lib.hid (show comR k t ms = (0, [], 0, 2) by rw [HRO.out, HRR.out, decide_eq_false (by omega)]; simp)
    have hne : ¬ (n' : Int) = (n : Int) := by omega
    clear hs ht hn hn' htb hlen hw hkb hm hmt hok
    go_enter Tryd.func23, Tryd.ntmps23
    go_upto_region 1 with fail
    generalize (w.alloc _) = w0 at *
    obtain ⟨r0, r1, r2, _⟩ := (S0.out.bx 0 rfl).c3
    have lr := (S0.out.bx 0 rfl).2.2
    go_wp2_with fail
    refine (K29.out _).mono ?_
    rintro e w1 ⟨rfl, hb1⟩
    have S1 := Lib.hid (S0.out.ext hb1)
    clear hb1 r0 r1 r2 lr S0
    obtain ⟨r0, r1, r2, _⟩ := (S1.out.bx 0 rfl).c3
    have lr := (S1.out.bx 0 rfl).2.2
    go_wp2_with fail
    refine (K46.out _ (HFt.out _ S1.out.bel)).mono ?_
    rintro e w3 ⟨rfl, rfl⟩
    go_wp2_with fail
    have S9 := (((S1.out.set 0 rfl 0 (.int .u8 0)).set 0 rfl 1 (.slice none 0 0)).set 0 rfl 2 (.int .u32 0))
    obtain ⟨v0, v1, v2, _⟩ := (S9.bx 0 rfl).c3
    refine bodyPost_ret (v := .tuple #[.agg #[.int .u8 0, .slice none 0 0, .int .u32 0], .int .i64 2]) (by simp [results, Tryd.results23, go_sem, *]) rfl ⟨none, 0, by rw [HL.out]; rfl, by rw [HL.out]; exact ((S9.nil 41 1).sub [0] (by decide) rfl)⟩
  subst hlen
  obtain ⟨l1, l4, l15⟩ := tmpl_bd htb
  have HL0 := Lib.hid (fun (h : ∃ x ∈ ms, ¬ x < 2 ^ (kd m).k) => (show comR k t ms = (0, [], 0, 2) by
      obtain ⟨x, hx, hxn⟩ := h
      have : (ms.all fun m' => decide (m' < 2 ^ (kd m).k)) = false := by
        rw [List.all_eq_false]; exact ⟨x, hx, by simpa using hxn⟩
      rw [HRO.out, HRR.out, this]; simp))
  have HL := Lib.hid (fun (h : ∀ x ∈ ms, x < 2 ^ (kd m).k) => (show comR k t ms = (k, comN (kd m) t ms n', tagF ms, 0) by
      have : (ms.all fun m' => decide (m' < 2 ^ (kd m).k)) = true := by
        rw [List.all_eq_true]; exact fun x hx => by simpa using h x hx
      rw [HRO.out, HRR.out, htb, this, decide_eq_true (by omega), hn]; rfl))
  have HTG := Lib.hid (fun W (h : Rd W A' (u16s ms)) => tagged_any ms A' n' cp' W h hn' hw hbig)
  have HIM := Lib.hid (fun x (hx : x < 2 ^ 16) W => isMessage_any m hm1 hm3 x hx W)
  have HCO := Lib.hid (fun x (hx : x < 2 ^ (kd m).k) W => refCoded_any m hm1 hm3 x hx W)
  have HCL := Lib.hid (fun x (hx : x < 2 ^ (kd m).k) => Kd.code_lt hok hx)
  have HW := Lib.hid hw
  have HLB := Lib.hid l15
  have HN := Lib.hid hn
  have HN' := Lib.hid hn'
  have hn1 : 1 ≤ n' := by omega
  have hn4 : n' ≤ 4 := by omega
  generalize kd m = c at *
  subst hm
  clear hs ht hn hn' htb l1 l4 l15 HRR HRO hbig hok hkb hmt hw
  generalize tagF ms = tg at *
  as_aux_lemma =>
  go_enter Tryd.func23, Tryd.ntmps23
  go_upto_region 1 with fail
  generalize (w.alloc _) = w0 at *
  obtain ⟨r0, r1, r2, _⟩ := (S0.out.bx 0 rfl).c3
  have lr := (S0.out.bx 0 rfl).2.2
  go_wp2_with fail
  refine (K29.out _).mono ?_
  rintro e w1 ⟨rfl, hb1⟩
  have S1 := Lib.hid (S0.out.ext hb1)
  clear hb1 r0 r1 r2 lr S0
  obtain ⟨r0, r1, r2, _⟩ := (S1.out.bx 0 rfl).c3
  have lr := (S1.out.bx 0 rfl).2.2
  go_wp2_with fail
  refine (K46.out _ (HFt.out _ S1.out.bel)).mono ?_
  rintro e w3 ⟨rfl, rfl⟩
  go_wp2_with fail
  refine (HTG.out _ (HFs.out _ S1.out.bel)).mono ?_
  rintro e w5 ⟨rfl, rfl⟩
  go_upto_region 4 with fail
  have S5 := Lib.hid (S1.out.new 25 #[.int .u8 (m : Nat), .slice none 0 0, .int .u32 (tg : Nat)])
  generalize w1.alloc _ = w6 at *
  generalize w1.heap.size = B10 at *
  have S6 := Lib.hid ((S5.out.nil 41 1).cast (qs := [row 41 1 (.slice none 0 0) 0 (u16s (comN c t ms 0)), box B10 25 [.int .u8 (m : Nat), .slice none 0 0, .int .u32 (tg : Nat)], box w.heap.size 25 [.int .u8 0, .slice none 0 0, .int .u32 0]]) rfl)
  clear S1 S5 r0 r1 r2 lr
  go_wp2_with fail
  go_loopg [9] n' (fun q u9 wr => ∃ (i : Nat) (A1 : Option Addr) (c1 : Nat), i ≤ n' ∧ u9 = .int .i64 (i : Nat) ∧ Hid ((∀ x ∈ ms.take i, x < 2 ^ c.k) ∧ i + q = n' ∧ Own w wr [row 41 1 (.slice A1 i c1) i (u16s (comN c t ms i)), box B10 25 [.int .u8 (m : Nat), .slice A1 i c1, .int .u32 (tg : Nat)], box w.heap.size 25 [.int .u8 0, .slice none 0 0, .int .u32 0]]))
  case atStart => exact ⟨0, none, 0, by omega, rfl, (fun x h => by simp at h), by omega, S6.out⟩
  case round =>
    obtain ⟨i, A1, c1, hi, rfl, hI⟩ := hrel
    have I0 := Lib.hid hI.out.1
    have I1 := Lib.hid hI.out.2.1
    have I2 := Lib.hid hI.out.2.2
    clear hI S6
    by_cases hlt : i < n'
    case neg => as_aux_lemma =>
      have hall : ∀ x ∈ ms, x < 2 ^ c.k := by have := I0.out; rwa [show i = n' by omega, HN'.out, List.take_length] at this
      have HE := Lib.hid (show comR m t ms = ((m : Int), comN c t ms i, tg, 0) by rw [HL.out hall, show n' = i by omega])
      have hni : ¬ (i : Int) < (n' : Int) := by omega
      clear hall
      obtain ⟨s0, s1, s2, _⟩ := (I2.out.bx 1 rfl).c3
      have ls := (I2.out.bx 1 rfl).2.2
      obtain ⟨r0, r1, r2, _⟩ := (I2.out.bx 2 rfl).c3
      have lr := (I2.out.bx 2 rfl).2.2
      go_wp2_with fail
      have S9 := (((I2.out.set 2 rfl 0 (.int .u8 (m : Nat))).set 2 rfl 1 (.slice A1 i c1)).set 2 rfl 2 (.int .u32 (tg : Nat)))
      obtain ⟨v0, v1, v2, _⟩ := (S9.bx 2 rfl).c3
      have hlen := comN_len c t ms i
      refine bodyPost_ret (v := .tuple #[.agg #[.int .u8 (m : Nat), .slice A1 i c1, .int .u32 (tg : Nat)], .int .i64 0]) (by simp [results, Tryd.results23, go_sem, *]) rfl ⟨A1, c1, by rw [HE.out, hlen], by rw [HE.out, hlen]; exact (S9.sub [0] (by decide) rfl)⟩
    have hil : i < t.length := by rw [← HN.out]; exact hlt
    have hil2 : i < ms.length := by rw [← HN'.out]; exact hlt
    have hix : (i : Int) < (n' : Int) := by omega
    have HTK := Lib.hid (fun W (h : Below w.heap.size w W) => (HFt.out W h).u16 hil)
    obtain ⟨b9, off9, rfl, k9, l9⟩ := (HFs.out _ I2.out.bel).u16 hil2
    have HSK := Lib.hid (fun W (h : Below w.heap.size w W) => (show W.cell? ⟨b9, off9 + i, none⟩ = some (.int .u16 (ms[i] : Nat)) ∧ b9 < W.heap.size by obtain ⟨b, o, e, h, hl⟩ := (HFs.out W h).u16 hil2; simp only [Option.some.injEq, Addr.mk.injEq] at e; obtain ⟨rfl, rfl, _⟩ := e; exact ⟨h, hl⟩))
    have hx15 := HLB.out t[i] (List.getElem_mem hil)
    have K30 := HIM.out ms[i] (HW.out.at_ hil2)
    have HT := Lib.hid (fun (h : ms[i] < 2 ^ c.k) => (show ∀ x ∈ ms.take (i + 1), x < 2 ^ c.k by
        intro x hx
        rw [List.take_add_one, List.getElem?_eq_getElem hil2] at hx
        rcases List.mem_append.1 hx with hx | hx
        · exact I0.out x hx
        · simp only [Option.toList_some, List.mem_singleton] at hx; subst hx; exact h))
    by_cases hb : ms[i] < 2 ^ c.k
    case neg => as_aux_lemma =>
      have HL2 := Lib.hid (HL0.out ⟨ms[i], List.getElem_mem hil2, hb⟩)
      rw [decide_eq_false hb] at K30
      replace K30 := Lib.hid K30
      clear hb HT HSK HTK
      generalize ms[i] = mg at *
      go_wp2_with fail
      refine (K30.out _).mono ?_
      rintro e w7 ⟨rfl, hb7⟩
      have S7 := Lib.hid (I2.out.ext hb7)
      clear hb7 k9 l9
      obtain ⟨r0, r1, r2, _⟩ := (S7.out.bx 2 rfl).c3
      have lr := (S7.out.bx 2 rfl).2.2
      go_wp2_with fail
      have S9 := (((S7.out.set 2 rfl 0 (.int .u8 0)).set 2 rfl 1 (.slice none 0 0)).set 2 rfl 2 (.int .u32 0))
      obtain ⟨v0, v1, v2, _⟩ := (S9.bx 2 rfl).c3
      refine bodyPost_ret (v := .tuple #[.agg #[.int .u8 0, .slice none 0 0, .int .u32 0], .int .i64 2]) (by simp [results, Tryd.results23, go_sem, *]) rfl ⟨none, 0, by rw [HL2.out]; rfl, by rw [HL2.out]; exact ((S9.nil 41 1).sub [0] (by decide) rfl)⟩
    as_aux_lemma =>
    replace HT := Lib.hid (HT.out hb)
    rw [decide_eq_true hb] at K30
    replace K30 := Lib.hid K30
    have hcl := HCL.out _ hb
    have e1 : bits .xor .u16 (t[i] : Int) (c.code ms[i] : Int) = ((t[i] ^^^ c.code ms[i] : Nat) : Int) := u16_xor_nat _ _ (by omega) (by omega)
    have K65 := Lib.hid (HCO.out ms[i] hb)
    have HP := Lib.hid (comN_snoc c hil hil2)
    have HP2 := Lib.hid (show u16s (comN c t ms i) ++ [.int .u16 ((t[i] ^^^ c.code ms[i] : Nat) : Int)] = u16s (comN c t ms (i + 1)) by rw [HP.out, u16s_app])
    generalize t[i] ^^^ c.code ms[i] = y at *
    generalize c.code ms[i] = cw at *
    clear HP hb
    generalize t[i] = x at *
    generalize ms[i] = mg at *
    go_wp2_with fail
    refine (K30.out _).mono ?_
    rintro e w7 ⟨rfl, hb7⟩
    have S7 := Lib.hid (I2.out.ext hb7)
    clear hb7 k9 l9 I2
    obtain ⟨b8, off8, rfl, k8, l8⟩ := HTK.out _ S7.out.bel
    replace HTK := Lib.hid (fun W (h : Below w.heap.size w W) => (show W.cell? ⟨b8, off8 + i, none⟩ = some (.int .u16 (x : Nat)) ∧ b8 < W.heap.size by obtain ⟨b, o, e, h, hl⟩ := HTK.out W h; simp only [Option.some.injEq, Addr.mk.injEq] at e; obtain ⟨rfl, rfl, _⟩ := e; exact ⟨h, hl⟩))
    clear k8 l8
    go_upto_region 9 with fail
    refine wp_region_state 61 [(44, .pointer (some ⟨B10, 1, none⟩)), (45, .slice A1 i c1), (46, (.slice (some ⟨b8, off8, none⟩) n' cp)), (47, .int .i64 (i : Nat)), (48, .pointer (some ⟨b8, off8 + i, none⟩)), (49, .int .u16 (x : Nat)), (50, .int .u8 (m : Nat)), (51, (.slice (some ⟨b9, off9, none⟩) n' cp')), (52, .int .i64 (i : Nat)), (53, .pointer (some ⟨b9, off9 + i, none⟩)), (54, .int .u16 (mg : Nat)), (55, .int .u16 (cw : Nat)), (56, .int .u16 (y : Nat)), (59, .pointer (some ⟨B10, 1, none⟩))] (fun L vs w' => Own w w' [cond (L 14) (row 41 1 (vs 58) (i + 1) (u16s (comN c t ms (i + 1)))) (row 41 1 (.slice A1 i c1) i (u16s (comN c t ms i))), box B10 25 [.int .u8 (m : Nat), cond (L 16) (vs 58) (.slice A1 i c1), .int .u32 (tg : Nat)], box w.heap.size 25 [.int .u8 0, .slice none 0 0, .int .u32 0], cond (L 13) (row 41 1 (vs 57) 1 [.int .u16 (y : Nat)]) (row 41 1 (.slice none 0 0) 0 [])]) (by kernel_rfl) (by kernel_rfl) [44, 45, 46, 47, 48, 49, 50, 51, 52, 53, 54, 55, 56, 57, 58, 59] (by kernel_rfl) rfl (by kernel_rfl) 17 rfl ?_ ?_ ?_
    · exact fun L hL => (((S7.out.nil 41 1).sub [1, 2, 3, 0] (by decide) (qs := [row 41 1 (.slice A1 i c1) i (u16s (comN c t ms i)), box B10 25 [.int .u8 (m : Nat), .slice A1 i c1, .int .u32 (tg : Nat)], box w.heap.size 25 [.int .u8 0, .slice none 0 0, .int .u32 0], row 41 1 (.slice none 0 0) 0 []]) rfl).ext (Below.refl _ _).drew).cast (by simp [hL 13 (by decide), hL 14 (by decide), hL 16 (by decide)])
    · refine ⟨StepS.of [] (by kernel_rfl) ?_, ?_⟩
      · intro L vs wq hL hA hC hJ
        unfold forAll
        exact StepV.val 44 (by kernel_rfl) (by kernel_rfl) rfl (by simp) rfl rfl hJ
      refine ⟨StepS.of [44] (by kernel_rfl) ?_, ?_⟩
      · intro L vs wq hL hA hC hJ h44
        rw [(show vs 44 = .pointer (some ⟨B10, 1, none⟩) from h44)]
        unfold forAll
        have hs := hC.no (j := 16) (i := 1) (by kernel_rfl) hL
        have t2 := (hJ.bx 1 rfl).1 1 _ rfl
        rw [hs] at t2
        simp only [cond_false] at t2
        exact StepV.val 45 (by kernel_rfl) (by go_simp) rfl (by simp [Act.put]) rfl rfl hJ
      refine ⟨StepS.of [] (by kernel_rfl) ?_, ?_⟩
      · intro L vs wq hL hA hC hJ
        unfold forAll
        exact StepV.val 46 (by kernel_rfl) (by kernel_rfl) rfl (by simp) rfl rfl hJ
      refine ⟨StepS.of [] (by kernel_rfl) ?_, ?_⟩
      · intro L vs wq hL hA hC hJ
        unfold forAll
        exact StepV.val 47 (by kernel_rfl) (by kernel_rfl) rfl (by simp) rfl rfl hJ
      refine ⟨StepS.of [46, 47] (by kernel_rfl) ?_, ?_⟩
      · intro L vs wq hL hA hC hJ h46 h47
        rw [(show vs 46 = (.slice (some ⟨b8, off8, none⟩) n' cp) from h46), (show vs 47 = .int .i64 (i : Nat) from h47)]
        unfold forAll
        obtain ⟨kk, lk⟩ := HTK.out _ hJ.bel
        exact StepV.val 48 (by kernel_rfl) (by go_simp) rfl (by simp [Act.put]) rfl rfl hJ
      refine ⟨StepS.of [48] (by kernel_rfl) ?_, ?_⟩
      · intro L vs wq hL hA hC hJ h48
        rw [(show vs 48 = .pointer (some ⟨b8, off8 + i, none⟩) from h48)]
        unfold forAll
        obtain ⟨kk, lk⟩ := HTK.out _ hJ.bel
        exact StepV.val 49 (by kernel_rfl) (by go_simp) rfl (by simp [Act.put]) rfl rfl hJ
      refine ⟨StepS.of [] (by kernel_rfl) ?_, ?_⟩
      · intro L vs wq hL hA hC hJ
        unfold forAll
        exact StepV.val 50 (by kernel_rfl) (by kernel_rfl) rfl (by simp) rfl rfl hJ
      refine ⟨StepS.of [] (by kernel_rfl) ?_, ?_⟩
      · intro L vs wq hL hA hC hJ
        unfold forAll
        exact StepV.val 51 (by kernel_rfl) (by kernel_rfl) rfl (by simp) rfl rfl hJ
      refine ⟨StepS.of [] (by kernel_rfl) ?_, ?_⟩
      · intro L vs wq hL hA hC hJ
        unfold forAll
        exact StepV.val 52 (by kernel_rfl) (by kernel_rfl) rfl (by simp) rfl rfl hJ
      refine ⟨StepS.of [51, 52] (by kernel_rfl) ?_, ?_⟩
      · intro L vs wq hL hA hC hJ h51 h52
        rw [(show vs 51 = (.slice (some ⟨b9, off9, none⟩) n' cp') from h51), (show vs 52 = .int .i64 (i : Nat) from h52)]
        unfold forAll
        obtain ⟨kk, lk⟩ := HSK.out _ hJ.bel
        exact StepV.val 53 (by kernel_rfl) (by go_simp) rfl (by simp [Act.put]) rfl rfl hJ
      refine ⟨StepS.of [53] (by kernel_rfl) ?_, ?_⟩
      · intro L vs wq hL hA hC hJ h53
        rw [(show vs 53 = .pointer (some ⟨b9, off9 + i, none⟩) from h53)]
        unfold forAll
        obtain ⟨kk, lk⟩ := HSK.out _ hJ.bel
        exact StepV.val 54 (by kernel_rfl) (by go_simp) rfl (by simp [Act.put]) rfl rfl hJ
      refine ⟨StepS.of [50, 54] (by kernel_rfl) ?_, ?_⟩
      · intro L vs wq hL hA hC hJ h50 h54
        rw [(show vs 50 = .int .u8 (m : Nat) from h50), (show vs 54 = .int .u16 (mg : Nat) from h54)]
        unfold forAll
        refine StepV.call (f := 65) (args := #[.int .u8 (m : Nat), .int .u16 (mg : Nat)]) (w1 := wq) 55 (by kernel_rfl) (by kernel_rfl) rfl (by simp [Act.put]) rfl ?_
        refine (K65.out _).mono ?_
        rintro e w8 ⟨rfl, hb8⟩
        exact ⟨_, rfl, rfl, hJ.ext hb8⟩
      refine ⟨StepS.of [49, 55] (by kernel_rfl) ?_, ?_⟩
      · intro L vs wq hL hA hC hJ h49 h55
        rw [(show vs 49 = .int .u16 (x : Nat) from h49), (show vs 55 = .int .u16 (cw : Nat) from h55)]
        unfold forAll
        exact StepV.val 56 (by kernel_rfl) (by go_simp) rfl (by simp [Act.put]) rfl rfl hJ
      refine ⟨StepS.of [56] (by kernel_rfl) ?_, ?_⟩
      · intro L vs wq hL hA hC hJ h56
        rw [(show vs 56 = .int .u16 (y : Nat) from h56)]
        unfold forAll
        have ha := hC.no (j := 14) (i := 13) (by kernel_rfl) hL
        have hs := hC.no (j := 16) (i := 13) (by kernel_rfl) hL
        have K := Own.cast (qs := [row 41 1 (.slice A1 i c1) i (u16s (comN c t ms i)), box B10 25 [.int .u8 (m : Nat), .slice A1 i c1, .int .u32 (tg : Nat)], box w.heap.size 25 [.int .u8 0, .slice none 0 0, .int .u32 0], row 41 1 (.slice none 0 0) 0 []]) hJ (by simp [hL, ha, hs])
        have K2 := (K.new' 41 #[.int .u16 (y : Nat)] (B := wq.heap.size) rfl).asRow (size := 1) (n := 1) 0 rfl rfl (by unfold maxLen; omega)
        have K3 := K2.sub [1, 2, 3, 0] (by decide) (qs := [row 41 1 (.slice A1 i c1) i (u16s (comN c t ms i)), box B10 25 [.int .u8 (m : Nat), .slice A1 i c1, .int .u32 (tg : Nat)], box w.heap.size 25 [.int .u8 0, .slice none 0 0, .int .u32 0], row 41 1 (.slice (some ⟨wq.heap.size, 0, none⟩) 1 1) 1 [.int .u16 (y : Nat)]]) rfl
        exact StepV.val 57 (v := .slice (some ⟨wq.heap.size, 0, none⟩) 1 1) (w' := wq.alloc (.cells #[.int .u16 (y : Nat)] 41)) (by kernel_rfl) (by go_simp) rfl (by simp [Act.put]) rfl trivial (K3.cast (by simp [upd, updv, ha, hs]))
      refine ⟨StepS.of [45, 57] (by kernel_rfl) ?_, ?_⟩
      · intro L vs wq hL hA hC hJ h45 h57
        rw [(show vs 45 = .slice A1 i c1 from h45)]
        unfold forAll
        have hb := afterS hA (i := 13) (by kernel_rfl)
        have hs := hC.no (j := 16) (i := 14) (by kernel_rfl) hL
        have K := Own.cast (qs := [row 41 1 (.slice A1 i c1) i (u16s (comN c t ms i)), box B10 25 [.int .u8 (m : Nat), .slice A1 i c1, .int .u32 (tg : Nat)], box w.heap.size 25 [.int .u8 0, .slice none 0 0, .int .u32 0], row 41 1 (vs 57) 1 [.int .u16 (y : Nat)]]) hJ (by simp [hL, hb, hs])
        obtain ⟨A8, c8, e8, ho8⟩ := rd_of_own (K.get 3 rfl)
        rw [e8]
        refine StepV.app 58 rfl (.tmp 45) (.tmp 57) 22 rfl rfl (by simp [Act.put]) rfl st22 0 K rfl (by simp [Act.eval, Act.put]) (by simp [Act.eval, Act.put]; rfl) (i + 1) (u16s (comN c t ms (i + 1))) [.int .u16 (y : Nat)] rfl (HP2.out) ho8.rd rfl (by simp [Value.oneCell']) (by unfold maxLen; omega) (by omega) ?_
        intro A9 c9 w9 hO9
        exact ⟨trivial, hO9.cast (by simp [upd, updv, hb, hs, e8])⟩
      refine ⟨StepS.of [] (by kernel_rfl) ?_, ?_⟩
      · intro L vs wq hL hA hC hJ
        unfold forAll
        exact StepV.val 59 (by kernel_rfl) (by kernel_rfl) rfl (by simp) rfl rfl hJ
      refine ⟨StepS.of [59, 58] (by kernel_rfl) ?_, ?_⟩
      · intro L vs wq hL hA hC hJ h59 h58
        rw [(show vs 59 = .pointer (some ⟨B10, 1, none⟩) from h59)]
        unfold forAll
        have ha := afterS hA (i := 14) (by kernel_rfl)
        have hb := hC.yes (j := 14) (i := 13) (by kernel_rfl) ha
        have K := Own.cast (qs := [row 41 1 (vs 58) (i + 1) (u16s (comN c t ms (i + 1))), box B10 25 [.int .u8 (m : Nat), .slice A1 i c1, .int .u32 (tg : Nat)], box w.heap.size 25 [.int .u8 0, .slice none 0 0, .int .u32 0], row 41 1 (vs 57) 1 [.int .u16 (y : Nat)]]) hJ (by simp [hL, hb, ha])
        obtain ⟨A9, c9, e9, _⟩ := rd_of_own (K.get 0 rfl)
        rw [e9]
        have t0 := (K.bx 1 rfl).1 1 _ rfl
        have tf := (K.bx 1 rfl).2.1
        have tl := (K.bx 1 rfl).2.2
        exact StepV.skip (by kernel_rfl) (by go_simp) rfl rfl ((K.set 1 rfl 1 (.slice A9 (i + 1) c9)).cast (by simp [upd, hb, ha, e9]))
      exact trivial
    · intro vs v9 hJ h44 h45 h46 h47 h48 h49 h50 h51 h52 h53 h54 h55 h56 h57 h58 h59
      rw [(show vs 44 = .pointer (some ⟨B10, 1, none⟩) from h44), (show vs 45 = .slice A1 i c1 from h45), (show vs 46 = (.slice (some ⟨b8, off8, none⟩) n' cp) from h46), (show vs 47 = .int .i64 (i : Nat) from h47), (show vs 48 = .pointer (some ⟨b8, off8 + i, none⟩) from h48), (show vs 49 = .int .u16 (x : Nat) from h49), (show vs 50 = .int .u8 (m : Nat) from h50), (show vs 51 = (.slice (some ⟨b9, off9, none⟩) n' cp') from h51), (show vs 52 = .int .i64 (i : Nat) from h52), (show vs 53 = .pointer (some ⟨b9, off9 + i, none⟩) from h53), (show vs 54 = .int .u16 (mg : Nat) from h54), (show vs 55 = .int .u16 (cw : Nat) from h55), (show vs 56 = .int .u16 (y : Nat) from h56), (show vs 59 = .pointer (some ⟨B10, 1, none⟩) from h59)]
      clear h44 h45 h46 h47 h48 h49 h50 h51 h52 h53 h54 h55 h56 h57 h58 h59
      have K := Own.cast (qs := [row 41 1 (vs 58) (i + 1) (u16s (comN c t ms (i + 1))), box B10 25 [.int .u8 (m : Nat), vs 58, .int .u32 (tg : Nat)], box w.heap.size 25 [.int .u8 0, .slice none 0 0, .int .u32 0], row 41 1 (vs 57) 1 [.int .u16 (y : Nat)]]) hJ rfl
      obtain ⟨A9, c9, e0, _⟩ := rd_of_own (K.get 0 rfl)
      obtain ⟨_, _, f0, _⟩ := rd_of_own (K.get 3 rfl)
      rw [e0] at K
      rw [e0, f0]
      have S9 := Lib.hid (K.sub [0, 1, 2] (by decide) (qs := [row 41 1 (.slice A9 (i + 1) c9) (i + 1) (u16s (comN c t ms (i + 1))), box B10 25 [.int .u8 (m : Nat), .slice A9 (i + 1) c9, .int .u32 (tg : Nat)], box w.heap.size 25 [.int .u8 0, .slice none 0 0, .int .u32 0]]) rfl)
      clear K hJ e0 f0
      unfold forAll
      simp only [Act.put, List.setIfInBounds_toArray, List.set_cons_zero, List.set_cons_succ]
      clear S7
      go_wp2_with fail
      go_roundg (gk - 1)
      case measure => have := I1.out; omega
      case rel => exact ⟨i + 1, A9, c9, by omega, by go_num, HT.out, by have := I1.out; omega, S9.out⟩
end Go.Proofs.YtnienfgaidccpaaDoor
