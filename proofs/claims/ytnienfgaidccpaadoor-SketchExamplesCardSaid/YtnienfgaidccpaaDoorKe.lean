/- Sketch: error and decode of the program. No condition. -/
import Derived.Test.YtnienfgaidccpaaDoorKd
namespace Go.Proofs.YtnienfgaidccpaaDoor
open Go.RowKit Go.Shelf
attribute [local go_sem] Oper.semAt_some

set_option maxRecDepth 100000 in
set_option maxHeartbeats 1000000 in
theorem error_any (c : Kd) (hc : c.ok) (s : Nat) (w : World) :
    Calls Tryd.prog 62 #[kdV c, .int .u16 (s : Nat)] w fun e w' => e = .returned (findV (c.err s)) ∧ Below w.heap.size w w' := by
  have hs := hc.sum
  obtain ⟨s1, s2, s3, s4, s5, s6⟩ := hs
  have HC := Lib.hid (fun br bs bf W (h : FEnv W c s br bs bf) => (show Calls Tryd.prog 90 #[.int .u16 0, .int .i64 0, .int .i64 (c.t : Nat), .pointer (some ⟨br, 0, none⟩), .pointer (some ⟨bs, 0, none⟩), .pointer (some ⟨bf, 0, none⟩)] W fun x w' => x = .returned (findV (c.err s)) ∧ Below W.heap.size W w' from find_any c hc s br bs bf c.t s5 0 0 (by decide) (by decide) W h))
  generalize c.err s = o at *
  have S0 := Lib.hid (((Own.start w).new 94 #[.int .u16 c.g, .int .i64 c.k, .int .i64 c.t]).new' 41 #[.int .u16 (s : Nat)] (B := w.heap.size + 1) (by simp))
  obtain ⟨t0, t1, t2, _⟩ := (S0.out.bx 1 rfl).c3
  have HKV := Lib.hid (show Value.agg #[.int .u16 c.g, .int .i64 c.k, .int .i64 c.t] = kdV c from rfl)
  unfold kdV
  go_enter Tryd.func62, Tryd.ntmps62
  go_wp2_with fail
  have S1 := Lib.hid ((S0.out.new' 97 #[.func (.func 59) #[kdV c] #[]] (B := w.heap.size + 1 + 1) (by simp)).new' 124 #[.func (.func 90) #[] #[.pointer (some ⟨w.heap.size + 1 + 1, 0, none⟩), .pointer (some ⟨w.heap.size + 1, 0, none⟩), .pointer (some ⟨w.heap.size + 1 + 1 + 1, 0, none⟩)]] (B := w.heap.size + 1 + 1 + 1) (by simp))
  have HE : FEnv _ c s (w.heap.size + 1 + 1) (w.heap.size + 1) (w.heap.size + 1 + 1 + 1) := ⟨(S1.out.bx 1 rfl).1 0 _ rfl, (S1.out.bx 2 rfl).1 0 _ rfl, (S1.out.bx 0 rfl).1 0 _ rfl, (S1.out.bx 1 rfl).2.2, (S1.out.bx 2 rfl).2.2, (S1.out.bx 0 rfl).2.2⟩
  refine (HC.out _ _ _ _ HE).mono ?_
  rintro e w1 ⟨rfl, hb1⟩
  have S2 := Lib.hid (S1.out.ext hb1)
  clear hb1 HE S1 S0
  rcases o with _ | e
  · simp only [findV]
    go_wp2_with fail
    refine bodyPost_ret (v := .tuple #[.int .u16 0, .bool false]) (by simp [results, Tryd.results62, go_sem]) rfl ⟨rfl, S2.out.bel⟩
  · simp only [findV]
    go_wp2_with fail
    refine bodyPost_ret (v := .tuple #[.int .u16 (e : Nat), .bool true]) (by simp [results, Tryd.results62, go_sem]) rfl ⟨rfl, S2.out.bel⟩
/-- What decode returns. -/
def dcV (c : Kd) (x : Nat) (o : Option Nat) : Value := match o with
  | none => .tuple #[.int .u16 (x >>> c.f : Nat), .int .i64 0, .bool false]
  | some e => .tuple #[.int .u16 ((x ^^^ e) >>> c.f : Nat), .int .i64 (cnt e : Nat), .bool true]
theorem shr_cast (x f : Nat) : ((x : Int) / 2 ^ f) = ((x >>> f : Nat) : Int) := by rw [Nat.shiftRight_eq_div_pow]; push_cast; rfl
theorem err_lt {c : Kd} {s e : Nat} (h : c.err s = some e) : e < 2 ^ 15 := (Kd.err_some h).2.1
set_option maxRecDepth 100000 in
set_option maxHeartbeats 1000000 in
theorem decode_any (c : Kd) (hc : c.ok) (x : Nat) (hx : x < 2 ^ 15) (w : World) :
    Calls Tryd.prog 70 #[kdV c, .int .u16 (x : Nat)] w fun e w' => e = .returned (dcV c x (c.err (c.rest x))) ∧ Below w.heap.size w w' := by
  have hs := hc.sum
  obtain ⟨s1, s2, s3, s4, s5, s6⟩ := hs
  have HR := Lib.hid (fun W => rest_any c hc x hx W)
  have HE := Lib.hid (fun W => error_any c hc (c.rest x) W)
  have hel := fun e => err_lt (c := c) (s := c.rest x) (e := e)
  generalize c.err (c.rest x) = o at *
  generalize c.rest x = r at *
  have S0 := Lib.hid ((Own.start w).new 94 #[.int .u16 c.g, .int .i64 c.k, .int .i64 c.t])
  have e3 : IntKind.i64.wrap (15 - (c.k : Int)) = c.f := by rw [IntWalk.i64_in _ (by omega)]; omega
  have b1 : 0 ≤ (c.f : Int) := by omega
  have b2 : (c.f : Int) ≤ 16 := by omega
  obtain ⟨q, hq1, hq2⟩ : ∃ q : Nat, q < 2 ^ 15 ∧ q = (o.getD 0) := ⟨_, by cases o with
    | none => decide
    | some e => exact hel e rfl, rfl⟩
  have HF := Lib.hid (show findV o = .tuple #[.int .u16 (q : Nat), .bool o.isSome] by subst hq2; cases o <;> rfl)
  have HD := Lib.hid (show dcV c x o = .tuple #[.int .u16 ((x ^^^ q) >>> c.f : Nat), .int .i64 (cnt q : Nat), .bool o.isSome] by
    subst hq2
    cases o with
    | none =>
      have h0 : cnt 0 = 0 := by decide
      simp [dcV, h0]
    | some e => rfl)
  have HO := Lib.hid (fun W => (ones16_any (q : Int) W (by omega) (by omega)))
  have hoc : Lib.onesCount ((q : Int) / 256).toNat + Lib.onesCount ((q : Int) % 256).toNat = cnt q := by
    have a1 : ((q : Int) / 256).toNat = q / 256 := by omega
    have a2 : ((q : Int) % 256).toNat = q % 256 := by omega
    rw [a1, a2]; exact ones_cnt (by omega)
  rw [hoc] at HO
  have e5 : bits .xor .u16 (x : Int) (q : Int) = ((x ^^^ q : Nat) : Int) := u16_xor_nat _ _ (by omega) (by omega)
  have hsc := shr_cast (x ^^^ q) c.f
  rw [HD.out]
  rw [HF.out] at HE
  generalize o.isSome = is at *
  generalize cnt q = d at *
  generalize x ^^^ q = z at *
  clear hq2 hel HF HD hoc
  unfold kdV at HR HE ⊢
  go_enter Tryd.func70, Tryd.ntmps70
  go_wp2_with fail
  have fx0 := fun x : OwnOf w [box w.heap.size 94 [.int .u16 c.g, .int .i64 c.k, .int .i64 c.t]] => (x.bx 0 rfl).1 0 _ rfl
  have fx1 := fun x : OwnOf w [box w.heap.size 94 [.int .u16 c.g, .int .i64 c.k, .int .i64 c.t]] => (x.bx 0 rfl).1 1 _ rfl
  have fx2 := fun x : OwnOf w [box w.heap.size 94 [.int .u16 c.g, .int .i64 c.k, .int .i64 c.t]] => (x.bx 0 rfl).1 2 _ rfl
  have hne : Nonempty (OwnOf w [box w.heap.size 94 [.int .u16 c.g, .int .i64 c.k, .int .i64 c.t]]) := ⟨⟨_, S0.out⟩⟩
  refine wp_region_own S0.out (by kernel_rfl) (by kernel_rfl) ?_
  iterate 3 (go_big_quiet_step (fail))
  go_big_quiet_step ((go_at_call 59; exact own_of (HR.out _)))
  go_big_quiet_step ((go_at_call 62; exact own_of (HE.out _)))
  iterate 5 (go_big_quiet_step (fail))
  refine wpQuiet_nil ?_
  rintro w2 ⟨z2, hz⟩
  have S2 := Lib.hid (show Own w w2 [box w.heap.size 94 [.int .u16 c.g, .int .i64 c.k, .int .i64 c.t]] by rw [hz]; exact z2.own)
  clear hz z2 hne
  go_wp2_with fail
  have hne : Nonempty (OwnOf w [box w.heap.size 94 [.int .u16 c.g, .int .i64 c.k, .int .i64 c.t]]) := ⟨⟨_, S2.out⟩⟩
  refine wp_region_own S2.out (by kernel_rfl) (by kernel_rfl) ?_
  iterate 8 (go_big_quiet_step (fail))
  go_big_quiet_step ((go_at_call 63; exact own_of (HO.out _)))
  iterate 4 (go_big_quiet_step (fail))
  refine wpQuiet_nil ?_
  rintro w3 ⟨z2, hz⟩
  have S3 := Lib.hid (show Own w w3 [box w.heap.size 94 [.int .u16 c.g, .int .i64 c.k, .int .i64 c.t]] by rw [hz]; exact z2.own)
  clear hz z2 hne
  go_wp2_with fail
  refine bodyPost_ret (v := .tuple #[.int .u16 (z >>> c.f : Nat), .int .i64 (d : Nat), .bool is]) (by simp [results, Tryd.results70, go_sem]) rfl ⟨rfl, S3.out.bel⟩
end Go.Proofs.YtnienfgaidccpaaDoor
