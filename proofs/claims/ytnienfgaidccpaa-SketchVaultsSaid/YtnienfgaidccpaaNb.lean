/- Sketch: the reference's Agree; common. No condition. -/
import Derived.Test.YtnienfgaidccpaaNa
namespace Go.Proofs.Ytnienfgaidccpaa
open Go.RowKit Go.Shelf
attribute [local go_sem] Oper.semAt_some

theorem bel_of {f : FuncId} {args : Array Value} {v : Value} {W : World} (K : Calls Try.prog f args W fun e w' => e = .returned v ∧ W = w') : Calls Try.prog f args W fun e w' => e = .returned v ∧ Below W.heap.size W w' := by
  refine K.mono ?_
  rintro e w' ⟨rfl, rfl⟩
  exact ⟨rfl, Below.refl _ _⟩
set_option maxRecDepth 100000 in
set_option maxHeartbeats 2000000 in
theorem refAgree_any (f v s : List Int) (A A' A2 : Option Addr) (n n' n2 c c' c2 : Nat) (w : World) (hf : Rd w A (i64s f)) (hv : Rd w A' (i64s v)) (hs : Rd w A2 (i64s s)) (hn : n = f.length) (hn' : n' = v.length) (hn2 : n2 = s.length)
    (hb : n ≤ 1000) (h31 : n' = 31) (hb2 : n2 ≤ 1000) (fi : In31 f) (si : In31 s) :
    Calls Try.prog 26 #[.slice A n c, .slice A' n' c', .slice A2 n2 c2] w fun e w' => e = .returned (.int .i64 (agr (vaV v) f s : Nat)) ∧ Below w.heap.size w w' := by
  have HV := Lib.hid (fun W (h : Below w.heap.size w W) => hv.below h)
  have HS := Lib.hid (fun W (h : Below w.heap.size w W) => hs.below h)
  have HN' := Lib.hid hn'
  have HN2 := Lib.hid hn2
  have HSI := Lib.hid si
  have HAT := Lib.hid (fun x W (h : Below w.heap.size w W) hx => bel_of (refValueAt_any f x A n c W (hf.below h) hn hb fi hx))
  have H31 := Lib.hid h31
  clear hf hv hs hn hn' hn2 fi si h31
  go_enter Try.func26, Try.ntmps26
  go_wp2_with fail
  go_loopg [7, 8] n2 (fun q u7 u12 wr => ∃ i k : Nat, i ≤ n2 ∧ k ≤ i ∧ u7 = .int .i64 (k : Nat) ∧ u12 = .int .i64 (i : Nat) ∧ Hid (k = agr (vaV v) f (s.take i) ∧ i + q = n2 ∧ Own w wr []))
  case atStart => exact ⟨0, 0, by omega, by omega, rfl, rfl, by rw [List.take_zero]; rfl, by omega, Own.start w⟩
  case round =>
    obtain ⟨i, k, hi, hki, rfl, rfl, hI⟩ := hrel
    have I0 := Lib.hid hI.out.1
    have I1 := Lib.hid hI.out.2.1
    have I2 := Lib.hid hI.out.2.2
    clear hI
    by_cases hlt : i < n2
    case neg => as_aux_lemma =>
      have HE := Lib.hid (show k = agr (vaV v) f s by rw [I0.out, List.take_of_length_le (by have := HN2.out; omega)])
      have hni : ¬ (i : Int) < (n2 : Int) := by omega
      go_wp2_with fail
      go_ret
      exact ⟨by rw [← HE.out]; rfl, I2.out.bel⟩
    have hil : i < s.length := by rw [← HN2.out]; exact hlt
    have hix : (i : Int) < (n2 : Int) := by omega
    have HC0 := Lib.hid (fun W (h : Below w.heap.size w W) => (HS.out W h).i64 hil)
    obtain ⟨b0, off, rfl, k0, l0⟩ := HC0.out _ I2.out.bel
    have K0 := Lib.hid (fun z : OwnOf w [] => (show z.wld.cell? ⟨b0, off + i, none⟩ = some (.int .i64 s[i]) by obtain ⟨b, o, e, h, _⟩ := HC0.out z.wld z.own.bel; simp only [Option.some.injEq, Addr.mk.injEq] at e; obtain ⟨rfl, rfl, _⟩ := e; exact h))
    have hx := HSI.out _ (List.getElem_mem hil)
    have HT := Lib.hid (show agr (vaV v) f (s.take (i + 1)) = k + if valF f s[i] = vaV v s[i] then 1 else 0 by
      rw [List.take_add_one, List.getElem?_eq_getElem hil, Option.toList_some, agr_snoc, ← I0.out])
    clear HC0 k0 l0
    generalize s[i] = x at *
    obtain ⟨xn, rfl⟩ : ∃ xn : Nat, x = xn := ⟨x.toNat, by omega⟩
    have hxl : xn < v.length := by have := HN'.out; have := H31.out; omega
    have hxn : (xn : Int) < (n' : Int) := by have := H31.out; omega
    rw [vaV_at hxl] at HT
    have HCV := Lib.hid (fun W (h : Below w.heap.size w W) => (HV.out W h).i64 hxl)
    have HA1 := Lib.hid (fun W (h : Below w.heap.size w W) => HAT.out (xn : Int) W h hx)
    obtain ⟨b1, off1, rfl, k1, l1⟩ := HCV.out _ I2.out.bel
    have K1 := Lib.hid (fun z : OwnOf w [] => (show z.wld.cell? ⟨b1, off1 + xn, none⟩ = some (.int .i64 v[xn]) by obtain ⟨b, o, e, h, _⟩ := HCV.out z.wld z.own.bel; simp only [Option.some.injEq, Addr.mk.injEq] at e; obtain ⟨rfl, rfl, _⟩ := e; exact h))
    generalize v[xn] = y at *
    generalize valF f (xn : Int) = a at *
    clear hx hxl k1 l1 HCV
    by_cases hay : a = y
    · as_aux_lemma =>
      have HG := Lib.hid (show agr (vaV v) f (s.take (i + 1)) = k + 1 by rw [HT.out, if_pos hay])
      subst hay
      clear HT
      go_upto_region 5 with fail
      have fx0 := fun z : OwnOf w [] => K0.out z
      have fx1 := fun z : OwnOf w [] => K1.out z
      have hne : Nonempty (OwnOf w []) := ⟨⟨_, I2.out⟩⟩
      refine wp_region_own I2.out (by kernel_rfl) (by kernel_rfl) ?_
      iterate 5 (go_big_quiet_step (fail))
      go_big_quiet_step ((go_at_call 19; exact own_of (HA1.out _ (OwnOf.own _).bel)))
      iterate 8 (go_big_quiet_step (fail))
      refine wpQuiet_nil ?_
      rintro w3 ⟨z, hz⟩
      have S3 := Lib.hid (show Own w w3 [] by rw [hz]; exact z.own)
      clear hz z hne fx0 fx1 K0 K1
      go_wp2_with fail
      go_roundg (gk - 1)
      case measure => have := I1.out; omega
      case rel => exact ⟨i + 1, k + 1, by omega, by omega, by go_num, by go_num, HG.out.symm, by have := I1.out; omega, S3.out⟩
    · as_aux_lemma =>
      have HG := Lib.hid (show agr (vaV v) f (s.take (i + 1)) = k by rw [HT.out, if_neg hay]; rfl)
      clear HT
      go_upto_region 5 with fail
      have fx0 := fun z : OwnOf w [] => K0.out z
      have fx1 := fun z : OwnOf w [] => K1.out z
      have hne : Nonempty (OwnOf w []) := ⟨⟨_, I2.out⟩⟩
      refine wp_region_own I2.out (by kernel_rfl) (by kernel_rfl) ?_
      iterate 5 (go_big_quiet_step (fail))
      go_big_quiet_step ((go_at_call 19; exact own_of (HA1.out _ (OwnOf.own _).bel)))
      iterate 8 (go_big_quiet_step (fail))
      refine wpQuiet_nil ?_
      rintro w3 ⟨z, hz⟩
      have S3 := Lib.hid (show Own w w3 [] by rw [hz]; exact z.own)
      clear hz z hne fx0 fx1 K0 K1
      go_wp2_with fail
      go_roundg (gk - 1)
      case measure => have := I1.out; omega
      case rel => exact ⟨i + 1, k, by omega, by omega, rfl, by go_num, HG.out.symm, by have := I1.out; omega, S3.out⟩
end Go.Proofs.Ytnienfgaidccpaa
