/- Sketch: the search for a secret, and Unlock, of the program. No condition. -/
import Derived.Test.YtnienfgaidccpaaDoorLc
import Derived.Deep.RegionHeld3
namespace Go.Proofs.YtnienfgaidccpaaDoor
open Go.RowKit Go.Shelf
attribute [local go_sem] Oper.semAt_some

theorem step_appF {P : Program} {w0 w : World} {ps : List Piece} {ops : Array Oper} {o : Oper} {a : Act} {K : Act → World → Prop} {Q : Exit → Act → World → Prop} {E : Prop} (hgd : o.guard = none) (s x : Operand) (t : TypeId)
    (ho : o.op = .call { callee := .builtin .append, args := #[s, x], argTypes := #[t, t] }) {e : TypeId} {z : Value} {size bytes : Nat} (st : SlTy P t e z size bytes) (hO : Own w0 w ps) {A1 : Option Addr} {n : Nat} {olds : List Value} (hs : a.eval s = .slice A1 n n)
    {A : Option Addr} {m c : Nat} (hx : a.eval x = .slice A m c) (N : Nat) (XS : List Value)
    (h : ∀ A' c' w', N ≤ c' → Own w0 w' (row e size (.slice A' N c') N XS :: ps) → K (a.put o.dst (.slice A' N c')) w') (news : List Value)
    (hN : n + m = N) (hX : olds ++ news = XS) (hr1 : Rd w A1 olds) (hn : olds.length = n * size) (hr : Rd w A news) (hm0 : 0 < m) (hm : news.length = m * size) (h1 : ∀ u ∈ news, u.oneCell' = true) (h63 : n + m ≤ maxLen) (hbytes : (n + m) * bytes ≤ 140737488355328) :
    if Region.wanted o (yielded ops a.tmps) = true then Oper.wp P o a w K Q else E := by
  have hi := st.i
  obtain ⟨i0, hi0, hi1⟩ := Option.map_eq_some_iff.1 hi
  simp only [Prod.mk.injEq] at hi1
  exact step_app_full w hgd s x t ho w.heap.size e i0 z size bytes st.u hi0 hi1.1 hi1.2.1 hi1.2.2 st.c st.p A1 n olds hs A m c news hx N XS (fun A' c' w' hF => h A' c' w' hF.2.2.2.2 (hO.addRow hF.1 (hF.2.2.2.1 hm0))) hN hX hr1 hn hr hm h1 h63 hbytes
/-- What the search bears: n, the vault, what is found, the places, how many have to agree, how many places are tried, the search itself. -/
def envL (Bn Bv Bf Bp Bd Bw Bc n cv np cp nd fw : Nat) (Av Ap : Option Addr) (fv : Value) : List Piece := [box Bn 3 [.int .i64 (n : Nat)], box Bv 61 [.slice Av 31 cv], box Bf 61 [fv], box Bp 61 [.slice Ap np cp], box Bd 3 [.int .i64 (nd : Nat)], box Bw 3 [.int .i64 (fw : Nat)], box Bc 73 [.func (.func 78) #[] #[.pointer (some ⟨Bn, 0, none⟩), .pointer (some ⟨Bv, 0, none⟩), .pointer (some ⟨Bf, 0, none⟩), .pointer (some ⟨Bp, 0, none⟩), .pointer (some ⟨Bd, 0, none⟩), .pointer (some ⟨Bw, 0, none⟩), .pointer (some ⟨Bc, 0, none⟩)]]]
def CPost (o : Option (List Int)) (env : Value → List Piece) (ps : List Piece) (n : Nat) (w0 : World) (e : Ending) (w' : World) : Prop := match o with
  | none => e = .returned (.bool false) ∧ ∃ fv, Own w0 w' (env fv ++ ps)
  | some r => e = .returned (.bool true) ∧ ∃ A c, Own w0 w' (row 3 1 (.slice A n c) n (i64s r) :: (env (.slice A n c) ++ ps))
theorem addm_any_len (b : Int) : ∀ (o z : List Int), z.length ≤ o.length → (addm b o z).length = o.length := addm_len b
theorem newt_len (V : Int → Int) : ∀ (ps o z : List Int), z.length + ps.length ≤ o.length + 1 → (newt V ps o z).length = o.length
  | [], _, _, _ => rfl
  | x :: ps, o, z, h => by
    have h2 : z.length ≤ o.length := by simp at h; omega
    rw [newt_cons, newt_len V ps _ _ (by rw [addm_len _ _ _ h2]; rw [show (mulx x z).length = z.length + 1 from mulAux_len x z 0]; simp at h; omega), addm_len _ _ _ h2]
theorem newt_in (V : Int → Int) : ∀ (ps o z : List Int), In31 o → In31 (newt V ps o z)
  | [], _, _, h => h
  | x :: ps, o, z, h => by rw [newt_cons]; exact newt_in V ps _ _ (addm_in _ _ _ h)
theorem thr_len (V : Int → Int) (ps : List Int) : (thr V ps).length = ps.length := by
  rw [thr, newt_len V ps _ _ (by simp; omega)]
  simp
theorem thr_in (V : Int → Int) (ps : List Int) : In31 (thr V ps) := newt_in V ps _ _ fun s hs => by
  have := (List.mem_replicate.1 hs).2
  omega
/-- The search's contract. -/
def ChSays (v pl : List Int) (w0 : World) (Bn Bv Bf Bp Bd Bw Bc n cv np cp nd fw : Nat) (Av Ap : Option Addr) (k : Nat) : Prop :=
  ∀ (cl : List Int) (f lc cc : Nat) (Ac : Option Addr) (ps : List Piece) (fv : Value) (W : World), lc = cl.length → lc + k = n → f ≤ 1000 → lc ≤ cc → In31 cl → Own w0 W ((envL Bn Bv Bf Bp Bd Bw Bc n cv np cp nd fw Av Ap) fv ++ ps) → (∀ fv' W', Own w0 W' ((envL Bn Bv Bf Bp Bd Bw Bc n cv np cp nd fw Av Ap) fv' ++ ps) → Rd W' Ac (i64s cl)) →
    Calls Tryd.prog 78 #[.slice Ac lc cc, .int .i64 (f : Nat), .pointer (some ⟨Bn, 0, none⟩), .pointer (some ⟨Bv, 0, none⟩), .pointer (some ⟨Bf, 0, none⟩), .pointer (some ⟨Bp, 0, none⟩), .pointer (some ⟨Bd, 0, none⟩), .pointer (some ⟨Bw, 0, none⟩), .pointer (some ⟨Bc, 0, none⟩)] W (CPost (srch (tstN (vaV v) pl n) ((pl.take fw).drop f) k cl) (envL Bn Bv Bf Bp Bd Bw Bc n cv np cp nd fw Av Ap) ps n w0)
set_option maxRecDepth 100000 in
set_option maxHeartbeats 4000000 in
theorem choose_step (v pl : List Int) (w0 : World) (Bn Bv Bf Bp Bd Bw Bc n cv np cp nd fw : Nat) (Av Ap : Option Addr) (hv : Rd w0 Av (i64s v)) (hp : Rd w0 Ap (i64s pl)) (h31 : 31 = v.length) (hnp : np = pl.length) (hnp2 : np ≤ 1000) (vi : In31 v) (pi : In31 pl) (h1 : 1 ≤ n) (h4 : n ≤ 4) (hnd : nd = need np n) (hfw : fw ≤ np) (k : Nat)
    (ih : ∀ k', k = k' + 1 → ChSays v pl w0 Bn Bv Bf Bp Bd Bw Bc n cv np cp nd fw Av Ap k') : ChSays v pl w0 Bn Bv Bf Bp Bd Bw Bc n cv np cp nd fw Av Ap k := by
  intro cl f lc cc Ac ps fv W hlc hlk hf hcc hci hO hcl
  have HV := Lib.hid (fun W (h : Below w0.heap.size w0 W) => hv.below h)
  have HP := Lib.hid (fun W (h : Below w0.heap.size w0 W) => hp.below h)
  have HCL := Lib.hid hcl
  have HLC := Lib.hid hlc
  have HCI := Lib.hid hci
  have HPI := Lib.hid pi
  have HVI := Lib.hid vi
  have H31 := Lib.hid h31
  have HNP := Lib.hid hnp
  have S0 := Lib.hid (hO.cast (qs := box Bn 3 [.int .i64 (n : Nat)] :: box Bv 61 [.slice Av 31 cv] :: box Bf 61 [fv] :: box Bp 61 [.slice Ap np cp] :: box Bd 3 [.int .i64 (nd : Nat)] :: box Bw 3 [.int .i64 (fw : Nat)] :: box Bc 73 [.func (.func 78) #[] #[.pointer (some ⟨Bn, 0, none⟩), .pointer (some ⟨Bv, 0, none⟩), .pointer (some ⟨Bf, 0, none⟩), .pointer (some ⟨Bp, 0, none⟩), .pointer (some ⟨Bd, 0, none⟩), .pointer (some ⟨Bw, 0, none⟩), .pointer (some ⟨Bc, 0, none⟩)]] :: ps) rfl)
  clear hcl hlc hci hO vi h31
  by_cases hk : k = 0
  · subst hk
    have HT := Lib.hid (fun W (h : Below w0.heap.size w0 W) (h2 : Rd W Ac (i64s cl)) => through_any v cl Av Ac 31 lc cv cc W (hv.below h) h2 H31.out HLC.out rfl (by omega) (by omega) HVI.out HCI.out)
    have hln : lc = n := by omega
    have HTL := Lib.hid ((thr_len (vaV v) cl).trans HLC.out.symm)
    have HTI := Lib.hid (thr_in (vaV v) cl)
    rw [srch_zero]
    have HTS := Lib.hid (show tstN (vaV v) pl n cl = if nd ≤ agr (vaV v) (thr (vaV v) cl) pl then some (thr (vaV v) cl) else none by rw [tstN, hnd, HNP.out])
    have HAG := Lib.hid (fun Af cf W (h : Below w0.heap.size w0 W) (h2 : Rd W Af (i64s (thr (vaV v) cl))) => agree_any (thr (vaV v) cl) v pl Af Av Ap lc 31 np cf cv cp W h2 (hv.below h) (hp.below h) HTL.out.symm H31.out HNP.out (by omega) (by omega) rfl hnp2 HTI.out HPI.out)
    generalize thr (vaV v) cl = TC at *
    generalize agr (vaV v) TC pl = ag at *
    have H0 := Lib.hid (HCL.out fv W S0.out)
    have hkk : lc = n := by omega
    clear hv hp pi ih hlk hnp hnd HCL
    subst hkk
    have x0 := (S0.out.bx 0 rfl).1 0 _ rfl
    have x1 := (S0.out.bx 1 rfl).1 0 _ rfl
    have x2 := (S0.out.bx 2 rfl).1 0 _ rfl
    have y2 := (S0.out.bx 2 rfl).2.2
    have z2 := (S0.out.bx 2 rfl).2.1
    have b4 : (lc : Int) ≤ 4 := by omega
    by_cases hq : nd ≤ ag
    · as_aux_lemma =>
      have HR := Lib.hid (HTS.out.trans (if_pos hq))
      have hqi : (nd : Int) ≤ (ag : Int) := by omega
      go_enter Tryd.func78, Tryd.ntmps78
      go_wp2_with fail
      refine (HT.out _ S0.out.bel H0.out).mono ?_
      rintro e w3 ⟨A9, c9, rfl, hO3⟩
      have S3 := Lib.hid ((S0.out.call hO3).cast (qs := row 3 1 (.slice A9 lc c9) lc (i64s TC) :: box Bn 3 [.int .i64 (lc : Nat)] :: box Bv 61 [.slice Av 31 cv] :: box Bf 61 [fv] :: box Bp 61 [.slice Ap np cp] :: box Bd 3 [.int .i64 (nd : Nat)] :: box Bw 3 [.int .i64 (fw : Nat)] :: box Bc 73 [.func (.func 78) #[] #[.pointer (some ⟨Bn, 0, none⟩), .pointer (some ⟨Bv, 0, none⟩), .pointer (some ⟨Bf, 0, none⟩), .pointer (some ⟨Bp, 0, none⟩), .pointer (some ⟨Bd, 0, none⟩), .pointer (some ⟨Bw, 0, none⟩), .pointer (some ⟨Bc, 0, none⟩)]] :: ps) rfl)
      clear hO3 x0 x1 x2 y2 z2
      have x2 := (S3.out.bx 3 rfl).1 0 _ rfl
      have y2 := (S3.out.bx 3 rfl).2.2
      have z2 := (S3.out.bx 3 rfl).2.1
      go_upto_region 3 with fail
      have S4 := Lib.hid ((S3.out.set 3 rfl 0 (.slice A9 lc c9)).cast (qs := row 3 1 (.slice A9 lc c9) lc (i64s TC) :: box Bn 3 [.int .i64 (lc : Nat)] :: box Bv 61 [.slice Av 31 cv] :: box Bf 61 [.slice A9 lc c9] :: box Bp 61 [.slice Ap np cp] :: box Bd 3 [.int .i64 (nd : Nat)] :: box Bw 3 [.int .i64 (fw : Nat)] :: box Bc 73 [.func (.func 78) #[] #[.pointer (some ⟨Bn, 0, none⟩), .pointer (some ⟨Bv, 0, none⟩), .pointer (some ⟨Bf, 0, none⟩), .pointer (some ⟨Bp, 0, none⟩), .pointer (some ⟨Bd, 0, none⟩), .pointer (some ⟨Bw, 0, none⟩), .pointer (some ⟨Bc, 0, none⟩)]] :: ps) rfl)
      generalize w3.setCell _ _ = w4 at *
      clear S3 x2 y2 z2
      have q3 := fun Z : OwnOf w0 (row 3 1 (.slice A9 lc c9) lc (i64s TC) :: box Bn 3 [.int .i64 (lc : Nat)] :: box Bv 61 [.slice Av 31 cv] :: box Bf 61 [.slice A9 lc c9] :: box Bp 61 [.slice Ap np cp] :: box Bd 3 [.int .i64 (nd : Nat)] :: box Bw 3 [.int .i64 (fw : Nat)] :: box Bc 73 [.func (.func 78) #[] #[.pointer (some ⟨Bn, 0, none⟩), .pointer (some ⟨Bv, 0, none⟩), .pointer (some ⟨Bf, 0, none⟩), .pointer (some ⟨Bp, 0, none⟩), .pointer (some ⟨Bd, 0, none⟩), .pointer (some ⟨Bw, 0, none⟩), .pointer (some ⟨Bc, 0, none⟩)]] :: ps) => (Z.bx 3 rfl).1 0 _ rfl
      have q2 := fun Z : OwnOf w0 (row 3 1 (.slice A9 lc c9) lc (i64s TC) :: box Bn 3 [.int .i64 (lc : Nat)] :: box Bv 61 [.slice Av 31 cv] :: box Bf 61 [.slice A9 lc c9] :: box Bp 61 [.slice Ap np cp] :: box Bd 3 [.int .i64 (nd : Nat)] :: box Bw 3 [.int .i64 (fw : Nat)] :: box Bc 73 [.func (.func 78) #[] #[.pointer (some ⟨Bn, 0, none⟩), .pointer (some ⟨Bv, 0, none⟩), .pointer (some ⟨Bf, 0, none⟩), .pointer (some ⟨Bp, 0, none⟩), .pointer (some ⟨Bd, 0, none⟩), .pointer (some ⟨Bw, 0, none⟩), .pointer (some ⟨Bc, 0, none⟩)]] :: ps) => (Z.bx 2 rfl).1 0 _ rfl
      have q4 := fun Z : OwnOf w0 (row 3 1 (.slice A9 lc c9) lc (i64s TC) :: box Bn 3 [.int .i64 (lc : Nat)] :: box Bv 61 [.slice Av 31 cv] :: box Bf 61 [.slice A9 lc c9] :: box Bp 61 [.slice Ap np cp] :: box Bd 3 [.int .i64 (nd : Nat)] :: box Bw 3 [.int .i64 (fw : Nat)] :: box Bc 73 [.func (.func 78) #[] #[.pointer (some ⟨Bn, 0, none⟩), .pointer (some ⟨Bv, 0, none⟩), .pointer (some ⟨Bf, 0, none⟩), .pointer (some ⟨Bp, 0, none⟩), .pointer (some ⟨Bd, 0, none⟩), .pointer (some ⟨Bw, 0, none⟩), .pointer (some ⟨Bc, 0, none⟩)]] :: ps) => (Z.bx 4 rfl).1 0 _ rfl
      have q5 := fun Z : OwnOf w0 (row 3 1 (.slice A9 lc c9) lc (i64s TC) :: box Bn 3 [.int .i64 (lc : Nat)] :: box Bv 61 [.slice Av 31 cv] :: box Bf 61 [.slice A9 lc c9] :: box Bp 61 [.slice Ap np cp] :: box Bd 3 [.int .i64 (nd : Nat)] :: box Bw 3 [.int .i64 (fw : Nat)] :: box Bc 73 [.func (.func 78) #[] #[.pointer (some ⟨Bn, 0, none⟩), .pointer (some ⟨Bv, 0, none⟩), .pointer (some ⟨Bf, 0, none⟩), .pointer (some ⟨Bp, 0, none⟩), .pointer (some ⟨Bd, 0, none⟩), .pointer (some ⟨Bw, 0, none⟩), .pointer (some ⟨Bc, 0, none⟩)]] :: ps) => (Z.bx 5 rfl).1 0 _ rfl
      have KA := Lib.hid (fun Z : OwnOf w0 (row 3 1 (.slice A9 lc c9) lc (i64s TC) :: box Bn 3 [.int .i64 (lc : Nat)] :: box Bv 61 [.slice Av 31 cv] :: box Bf 61 [.slice A9 lc c9] :: box Bp 61 [.slice Ap np cp] :: box Bd 3 [.int .i64 (nd : Nat)] :: box Bw 3 [.int .i64 (fw : Nat)] :: box Bc 73 [.func (.func 78) #[] #[.pointer (some ⟨Bn, 0, none⟩), .pointer (some ⟨Bv, 0, none⟩), .pointer (some ⟨Bf, 0, none⟩), .pointer (some ⟨Bp, 0, none⟩), .pointer (some ⟨Bd, 0, none⟩), .pointer (some ⟨Bw, 0, none⟩), .pointer (some ⟨Bc, 0, none⟩)]] :: ps) => own_of (HAG.out A9 c9 Z.wld Z.own.bel (Z.own.rd 0 rfl)))
      have hne : Nonempty (OwnOf w0 (row 3 1 (.slice A9 lc c9) lc (i64s TC) :: box Bn 3 [.int .i64 (lc : Nat)] :: box Bv 61 [.slice Av 31 cv] :: box Bf 61 [.slice A9 lc c9] :: box Bp 61 [.slice Ap np cp] :: box Bd 3 [.int .i64 (nd : Nat)] :: box Bw 3 [.int .i64 (fw : Nat)] :: box Bc 73 [.func (.func 78) #[] #[.pointer (some ⟨Bn, 0, none⟩), .pointer (some ⟨Bv, 0, none⟩), .pointer (some ⟨Bf, 0, none⟩), .pointer (some ⟨Bp, 0, none⟩), .pointer (some ⟨Bd, 0, none⟩), .pointer (some ⟨Bw, 0, none⟩), .pointer (some ⟨Bc, 0, none⟩)]] :: ps)) := ⟨⟨_, S4.out⟩⟩
      refine wp_region_own S4.out (by kernel_rfl) (by kernel_rfl) ?_
      iterate 3 (go_big_quiet_step (fail))
      go_big_quiet_step ((go_at_call 80; exact KA.out _))
      iterate 3 (go_big_quiet_step (fail))
      refine wpQuiet_nil ?_
      rintro w5 ⟨Z, hZ⟩
      have S5 := Lib.hid (show Own w0 w5 (row 3 1 (.slice A9 lc c9) lc (i64s TC) :: box Bn 3 [.int .i64 (lc : Nat)] :: box Bv 61 [.slice Av 31 cv] :: box Bf 61 [.slice A9 lc c9] :: box Bp 61 [.slice Ap np cp] :: box Bd 3 [.int .i64 (nd : Nat)] :: box Bw 3 [.int .i64 (fw : Nat)] :: box Bc 73 [.func (.func 78) #[] #[.pointer (some ⟨Bn, 0, none⟩), .pointer (some ⟨Bv, 0, none⟩), .pointer (some ⟨Bf, 0, none⟩), .pointer (some ⟨Bp, 0, none⟩), .pointer (some ⟨Bd, 0, none⟩), .pointer (some ⟨Bw, 0, none⟩), .pointer (some ⟨Bc, 0, none⟩)]] :: ps) by rw [hZ]; exact Z.own)
      clear hZ Z hne q3 q2 q4 q5 KA
      go_wp2_with fail
      go_ret
      rw [HR.out]
      exact ⟨rfl, A9, c9, S5.out⟩
    · as_aux_lemma =>
      have HR := Lib.hid (HTS.out.trans (if_neg hq))
      have hqi : ¬ (nd : Int) ≤ (ag : Int) := by omega
      go_enter Tryd.func78, Tryd.ntmps78
      go_wp2_with fail
      refine (HT.out _ S0.out.bel H0.out).mono ?_
      rintro e w3 ⟨A9, c9, rfl, hO3⟩
      have S3 := Lib.hid ((S0.out.call hO3).cast (qs := row 3 1 (.slice A9 lc c9) lc (i64s TC) :: box Bn 3 [.int .i64 (lc : Nat)] :: box Bv 61 [.slice Av 31 cv] :: box Bf 61 [fv] :: box Bp 61 [.slice Ap np cp] :: box Bd 3 [.int .i64 (nd : Nat)] :: box Bw 3 [.int .i64 (fw : Nat)] :: box Bc 73 [.func (.func 78) #[] #[.pointer (some ⟨Bn, 0, none⟩), .pointer (some ⟨Bv, 0, none⟩), .pointer (some ⟨Bf, 0, none⟩), .pointer (some ⟨Bp, 0, none⟩), .pointer (some ⟨Bd, 0, none⟩), .pointer (some ⟨Bw, 0, none⟩), .pointer (some ⟨Bc, 0, none⟩)]] :: ps) rfl)
      clear hO3 x0 x1 x2 y2 z2
      have x2 := (S3.out.bx 3 rfl).1 0 _ rfl
      have y2 := (S3.out.bx 3 rfl).2.2
      have z2 := (S3.out.bx 3 rfl).2.1
      go_upto_region 3 with fail
      have S4 := Lib.hid ((S3.out.set 3 rfl 0 (.slice A9 lc c9)).cast (qs := row 3 1 (.slice A9 lc c9) lc (i64s TC) :: box Bn 3 [.int .i64 (lc : Nat)] :: box Bv 61 [.slice Av 31 cv] :: box Bf 61 [.slice A9 lc c9] :: box Bp 61 [.slice Ap np cp] :: box Bd 3 [.int .i64 (nd : Nat)] :: box Bw 3 [.int .i64 (fw : Nat)] :: box Bc 73 [.func (.func 78) #[] #[.pointer (some ⟨Bn, 0, none⟩), .pointer (some ⟨Bv, 0, none⟩), .pointer (some ⟨Bf, 0, none⟩), .pointer (some ⟨Bp, 0, none⟩), .pointer (some ⟨Bd, 0, none⟩), .pointer (some ⟨Bw, 0, none⟩), .pointer (some ⟨Bc, 0, none⟩)]] :: ps) rfl)
      generalize w3.setCell _ _ = w4 at *
      clear S3 x2 y2 z2
      have q3 := fun Z : OwnOf w0 (row 3 1 (.slice A9 lc c9) lc (i64s TC) :: box Bn 3 [.int .i64 (lc : Nat)] :: box Bv 61 [.slice Av 31 cv] :: box Bf 61 [.slice A9 lc c9] :: box Bp 61 [.slice Ap np cp] :: box Bd 3 [.int .i64 (nd : Nat)] :: box Bw 3 [.int .i64 (fw : Nat)] :: box Bc 73 [.func (.func 78) #[] #[.pointer (some ⟨Bn, 0, none⟩), .pointer (some ⟨Bv, 0, none⟩), .pointer (some ⟨Bf, 0, none⟩), .pointer (some ⟨Bp, 0, none⟩), .pointer (some ⟨Bd, 0, none⟩), .pointer (some ⟨Bw, 0, none⟩), .pointer (some ⟨Bc, 0, none⟩)]] :: ps) => (Z.bx 3 rfl).1 0 _ rfl
      have q2 := fun Z : OwnOf w0 (row 3 1 (.slice A9 lc c9) lc (i64s TC) :: box Bn 3 [.int .i64 (lc : Nat)] :: box Bv 61 [.slice Av 31 cv] :: box Bf 61 [.slice A9 lc c9] :: box Bp 61 [.slice Ap np cp] :: box Bd 3 [.int .i64 (nd : Nat)] :: box Bw 3 [.int .i64 (fw : Nat)] :: box Bc 73 [.func (.func 78) #[] #[.pointer (some ⟨Bn, 0, none⟩), .pointer (some ⟨Bv, 0, none⟩), .pointer (some ⟨Bf, 0, none⟩), .pointer (some ⟨Bp, 0, none⟩), .pointer (some ⟨Bd, 0, none⟩), .pointer (some ⟨Bw, 0, none⟩), .pointer (some ⟨Bc, 0, none⟩)]] :: ps) => (Z.bx 2 rfl).1 0 _ rfl
      have q4 := fun Z : OwnOf w0 (row 3 1 (.slice A9 lc c9) lc (i64s TC) :: box Bn 3 [.int .i64 (lc : Nat)] :: box Bv 61 [.slice Av 31 cv] :: box Bf 61 [.slice A9 lc c9] :: box Bp 61 [.slice Ap np cp] :: box Bd 3 [.int .i64 (nd : Nat)] :: box Bw 3 [.int .i64 (fw : Nat)] :: box Bc 73 [.func (.func 78) #[] #[.pointer (some ⟨Bn, 0, none⟩), .pointer (some ⟨Bv, 0, none⟩), .pointer (some ⟨Bf, 0, none⟩), .pointer (some ⟨Bp, 0, none⟩), .pointer (some ⟨Bd, 0, none⟩), .pointer (some ⟨Bw, 0, none⟩), .pointer (some ⟨Bc, 0, none⟩)]] :: ps) => (Z.bx 4 rfl).1 0 _ rfl
      have q5 := fun Z : OwnOf w0 (row 3 1 (.slice A9 lc c9) lc (i64s TC) :: box Bn 3 [.int .i64 (lc : Nat)] :: box Bv 61 [.slice Av 31 cv] :: box Bf 61 [.slice A9 lc c9] :: box Bp 61 [.slice Ap np cp] :: box Bd 3 [.int .i64 (nd : Nat)] :: box Bw 3 [.int .i64 (fw : Nat)] :: box Bc 73 [.func (.func 78) #[] #[.pointer (some ⟨Bn, 0, none⟩), .pointer (some ⟨Bv, 0, none⟩), .pointer (some ⟨Bf, 0, none⟩), .pointer (some ⟨Bp, 0, none⟩), .pointer (some ⟨Bd, 0, none⟩), .pointer (some ⟨Bw, 0, none⟩), .pointer (some ⟨Bc, 0, none⟩)]] :: ps) => (Z.bx 5 rfl).1 0 _ rfl
      have KA := Lib.hid (fun Z : OwnOf w0 (row 3 1 (.slice A9 lc c9) lc (i64s TC) :: box Bn 3 [.int .i64 (lc : Nat)] :: box Bv 61 [.slice Av 31 cv] :: box Bf 61 [.slice A9 lc c9] :: box Bp 61 [.slice Ap np cp] :: box Bd 3 [.int .i64 (nd : Nat)] :: box Bw 3 [.int .i64 (fw : Nat)] :: box Bc 73 [.func (.func 78) #[] #[.pointer (some ⟨Bn, 0, none⟩), .pointer (some ⟨Bv, 0, none⟩), .pointer (some ⟨Bf, 0, none⟩), .pointer (some ⟨Bp, 0, none⟩), .pointer (some ⟨Bd, 0, none⟩), .pointer (some ⟨Bw, 0, none⟩), .pointer (some ⟨Bc, 0, none⟩)]] :: ps) => own_of (HAG.out A9 c9 Z.wld Z.own.bel (Z.own.rd 0 rfl)))
      have hne : Nonempty (OwnOf w0 (row 3 1 (.slice A9 lc c9) lc (i64s TC) :: box Bn 3 [.int .i64 (lc : Nat)] :: box Bv 61 [.slice Av 31 cv] :: box Bf 61 [.slice A9 lc c9] :: box Bp 61 [.slice Ap np cp] :: box Bd 3 [.int .i64 (nd : Nat)] :: box Bw 3 [.int .i64 (fw : Nat)] :: box Bc 73 [.func (.func 78) #[] #[.pointer (some ⟨Bn, 0, none⟩), .pointer (some ⟨Bv, 0, none⟩), .pointer (some ⟨Bf, 0, none⟩), .pointer (some ⟨Bp, 0, none⟩), .pointer (some ⟨Bd, 0, none⟩), .pointer (some ⟨Bw, 0, none⟩), .pointer (some ⟨Bc, 0, none⟩)]] :: ps)) := ⟨⟨_, S4.out⟩⟩
      refine wp_region_own S4.out (by kernel_rfl) (by kernel_rfl) ?_
      iterate 3 (go_big_quiet_step (fail))
      go_big_quiet_step ((go_at_call 80; exact KA.out _))
      iterate 3 (go_big_quiet_step (fail))
      refine wpQuiet_nil ?_
      rintro w5 ⟨Z, hZ⟩
      have S5 := Lib.hid (show Own w0 w5 (row 3 1 (.slice A9 lc c9) lc (i64s TC) :: box Bn 3 [.int .i64 (lc : Nat)] :: box Bv 61 [.slice Av 31 cv] :: box Bf 61 [.slice A9 lc c9] :: box Bp 61 [.slice Ap np cp] :: box Bd 3 [.int .i64 (nd : Nat)] :: box Bw 3 [.int .i64 (fw : Nat)] :: box Bc 73 [.func (.func 78) #[] #[.pointer (some ⟨Bn, 0, none⟩), .pointer (some ⟨Bv, 0, none⟩), .pointer (some ⟨Bf, 0, none⟩), .pointer (some ⟨Bp, 0, none⟩), .pointer (some ⟨Bd, 0, none⟩), .pointer (some ⟨Bw, 0, none⟩), .pointer (some ⟨Bc, 0, none⟩)]] :: ps) by rw [hZ]; exact Z.own)
      clear hZ Z hne q3 q2 q4 q5 KA
      go_wp2_with fail
      go_ret
      rw [HR.out]
      exact ⟨rfl, .slice A9 lc c9, S5.out.tail⟩
  obtain ⟨k', rfl⟩ : ∃ k', k = k' + 1 := ⟨k - 1, by omega⟩
  have IH := Lib.hid (ih k' rfl)
  have hne : ¬ (lc : Int) = (n : Int) := by omega
  have hbq : ((lc : Int) == (n : Int)) = false := by simpa using hne
  have HST := Lib.hid (show srch (tstN (vaV v) pl n) ((pl.take fw).drop f) (k' + 1) cl = srch (tstN (vaV v) pl n) ((pl.take fw).drop f) (k' + 1) cl from rfl)
  have HNX := Lib.hid (fun i (hi : i < fw) (hil : i < pl.length) => (show srch (tstN (vaV v) pl n) ((pl.take fw).drop i) (k' + 1) cl = match srch (tstN (vaV v) pl n) ((pl.take fw).drop (i + 1)) k' (cl ++ [pl[i]]) with | some r => some r | none => srch (tstN (vaV v) pl n) ((pl.take fw).drop (i + 1)) (k' + 1) cl by
    rw [List.drop_eq_getElem_cons (by rw [List.length_take]; omega), List.getElem_take, srch]; rfl))
  have HEN := Lib.hid (fun i (hi : fw ≤ i) => (show srch (tstN (vaV v) pl n) ((pl.take fw).drop i) (k' + 1) cl = none by
    rw [List.drop_eq_nil_of_le (by rw [List.length_take]; omega)]; rfl))
  generalize hRS : srch (tstN (vaV v) pl n) ((pl.take fw).drop f) (k' + 1) cl = RS
  rw [hRS] at HST
  replace HST := Lib.hid HST.out.symm
  rw [← hRS] at HST
  replace hRS := Lib.hid hRS
  have hlk' := Lib.hid hlk
  have hb1 : (lc : Int) ≤ 4 := by omega
  have hb2 : lc ≤ 4 := by omega
  clear hv hp pi ih hk hlk hnd hnp HST
  have x0 := (S0.out.bx 0 rfl).1 0 _ rfl
  go_enter Tryd.func78, Tryd.ntmps78
  go_wp2_with fail
  clear x0
  go_loopg [12] (fw + 1) (fun q u12 wr => ∃ i : Nat, i ≤ 1001 ∧ u12 = .int .i64 (i : Nat) ∧ Hid (∃ fv, srch (tstN (vaV v) pl n) ((pl.take fw).drop i) (k' + 1) cl = RS ∧ fw < i + q ∧ Own w0 wr (box Bn 3 [.int .i64 (n : Nat)] :: box Bv 61 [.slice Av 31 cv] :: box Bf 61 [fv] :: box Bp 61 [.slice Ap np cp] :: box Bd 3 [.int .i64 (nd : Nat)] :: box Bw 3 [.int .i64 (fw : Nat)] :: box Bc 73 [.func (.func 78) #[] #[.pointer (some ⟨Bn, 0, none⟩), .pointer (some ⟨Bv, 0, none⟩), .pointer (some ⟨Bf, 0, none⟩), .pointer (some ⟨Bp, 0, none⟩), .pointer (some ⟨Bd, 0, none⟩), .pointer (some ⟨Bw, 0, none⟩), .pointer (some ⟨Bc, 0, none⟩)]] :: ps)))
  case atStart => exact ⟨f, by omega, rfl, fv, hRS.out, by omega, S0.out⟩
  case round =>
    obtain ⟨i, hi, rfl, hI⟩ := hrel
    obtain ⟨fv, q1, q2, q3⟩ := hI.out
    have I1 := Lib.hid q1
    have I2 := Lib.hid q2
    have I3 := Lib.hid q3
    clear hI q1 q2 q3 S0
    have x5 := (I3.out.bx 5 rfl).1 0 _ rfl
    have xl := (I3.out.bx 5 rfl).2.2
    by_cases hlt : i < fw
    case neg => as_aux_lemma =>
      have HR := Lib.hid (I1.out.symm.trans (HEN.out i (by omega)))
      have hni : ¬ (i : Int) < (fw : Int) := by omega
      go_wp2_with fail
      go_ret
      rw [HR.out]
      exact ⟨rfl, fv, I3.out⟩
    have hil : i < pl.length := by rw [← HNP.out]; omega
    have hix : (i : Int) < (fw : Int) := by omega
    have hix2 : (i : Int) < (np : Int) := by omega
    have HN1 := Lib.hid (HNX.out i hlt hil)
    have HX := Lib.hid (HPI.out _ (List.getElem_mem hil))
    have HPC := Lib.hid (fun W (h : Below w0.heap.size w0 W) => (HP.out W h).i64 hil)
    have hi1000 : i + 1 ≤ 1000 := by omega
    generalize pl[i] = x at *
    obtain ⟨bp, op, rfl, kp, lp⟩ := HPC.out _ I3.out.bel
    replace HPC := Lib.hid (fun W (h : Below w0.heap.size w0 W) => (show W.cell? ⟨bp, op + i, none⟩ = some (.int .i64 x) ∧ bp < W.heap.size by obtain ⟨b, o, e, h, hl⟩ := HPC.out W h; simp only [Option.some.injEq, Addr.mk.injEq] at e; obtain ⟨rfl, rfl, _⟩ := e; exact ⟨h, hl⟩))
    have HC3 := Lib.hid (fun A3 c3 W3 (hc3 : lc + 1 ≤ c3) (h3 : Own w0 W3 (row 3 1 (.slice A3 (lc + 1) c3) (lc + 1) (i64s (cl ++ [x])) :: box Bn 3 [.int .i64 (n : Nat)] :: box Bv 61 [.slice Av 31 cv] :: box Bf 61 [fv] :: box Bp 61 [.slice (some ⟨bp, op, none⟩) np cp] :: box Bd 3 [.int .i64 (nd : Nat)] :: box Bw 3 [.int .i64 (fw : Nat)] :: box Bc 73 [.func (.func 78) #[] #[.pointer (some ⟨Bn, 0, none⟩), .pointer (some ⟨Bv, 0, none⟩), .pointer (some ⟨Bf, 0, none⟩), .pointer (some ⟨Bp, 0, none⟩), .pointer (some ⟨Bd, 0, none⟩), .pointer (some ⟨Bw, 0, none⟩), .pointer (some ⟨Bc, 0, none⟩)]] :: ps)) => (IH.out (cl ++ [x]) (i + 1) (lc + 1) c3 A3 (row 3 1 (.slice A3 (lc + 1) c3) (lc + 1) (i64s (cl ++ [x])) :: ps) fv W3 (by rw [List.length_append, HLC.out]; rfl) (by have := hlk'.out; omega) hi1000 hc3 (fun s hs => by
      rcases List.mem_append.1 hs with h | h
      · exact HCI.out s h
      · simp only [List.mem_singleton] at h; subst h; exact HX.out) (h3.perm (List.perm_middle (l₁ := envL Bn Bv Bf Bp Bd Bw Bc n cv np cp nd fw Av (some ⟨bp, op, none⟩) fv) (l₂ := ps) (a := row 3 1 (.slice A3 (lc + 1) c3) (lc + 1) (i64s (cl ++ [x])))).symm) (fun fv' W' h' => Own.rd (ps := envL Bn Bv Bf Bp Bd Bw Bc n cv np cp nd fw Av (some ⟨bp, op, none⟩) fv' ++ (row 3 1 (.slice A3 (lc + 1) c3) (lc + 1) (i64s (cl ++ [x])) :: ps)) h' 7 rfl)))
    have H0 := Lib.hid (HCL.out fv wr I3.out)
    have hic : ((i + 1 : Nat) : Int) = (i : Int) + 1 := by omega
    rw [hic] at HC3
    have z9 : IntKind.i64.wrap ((i : Int) + 1) = (i : Int) + 1 := IntWalk.i64_in _ (by omega)
    generalize srch (tstN (vaV v) pl n) ((pl.take fw).drop (i + 1)) k' (cl ++ [x]) = R2 at *
    have x3 := (I3.out.bx 3 rfl).1 0 _ rfl
    have x6 := (I3.out.bx 6 rfl).1 0 _ rfl
    have l3 := (I3.out.bx 3 rfl).2.2
    have l6 := (I3.out.bx 6 rfl).2.2
    have HI16 := Lib.hid hic
    have HOL := Lib.hid (show (i64s cl).length = lc * 1 by rw [i64s_len, ← HLC.out]; omega)
    clear hic hil HNX HEN
    cases hR2 : R2 with
    | none => as_aux_lemma =>
      rw [hR2] at HC3 HN1
      have HE := Lib.hid (show srch (tstN (vaV v) pl n) ((pl.take fw).drop (i + 1)) (k' + 1) cl = RS from HN1.out.symm.trans I1.out)
      clear hR2 HN1
      go_upto_region 7 with fail
      go_region_held3 (fun w' => (w'.cell? ⟨Bc, 0, none⟩ = some (.func (.func 78) #[] #[.pointer (some ⟨Bn, 0, none⟩), .pointer (some ⟨Bv, 0, none⟩), .pointer (some ⟨Bf, 0, none⟩), .pointer (some ⟨Bp, 0, none⟩), .pointer (some ⟨Bd, 0, none⟩), .pointer (some ⟨Bw, 0, none⟩), .pointer (some ⟨Bc, 0, none⟩)]) ∧ w'.cell? ⟨Bp, 0, none⟩ = some (.slice (some ⟨bp, op, none⟩) np cp)) ∧ w'.cell? ⟨bp, op + i, none⟩ = some (.int .i64 x)) (first | go_keep | exact ⟨⟨(HO9.out.bx 6 rfl).1 0 _ rfl, (HO9.out.bx 3 rfl).1 0 _ rfl⟩, (HPC.out _ HO9.out.bel).1⟩ | exact ⟨⟨(HO8.out.bx 7 rfl).1 0 _ rfl, (HO8.out.bx 4 rfl).1 0 _ rfl⟩, (HPC.out _ HO8.out.bel).1⟩) (first | (go_at_call 78; refine (HC3.out A8 c8 _ hc8 HO8.out).mono ?_; rintro e w9 ⟨rfl, fv9, hO9⟩; have HO9 := Lib.hid (Own.cast (qs := box Bn 3 [.int .i64 (n : Nat)] :: box Bv 61 [.slice Av 31 cv] :: box Bf 61 [fv9] :: box Bp 61 [.slice (some ⟨bp, op, none⟩) np cp] :: box Bd 3 [.int .i64 (nd : Nat)] :: box Bw 3 [.int .i64 (fw : Nat)] :: box Bc 73 [.func (.func 78) #[] #[.pointer (some ⟨Bn, 0, none⟩), .pointer (some ⟨Bv, 0, none⟩), .pointer (some ⟨Bf, 0, none⟩), .pointer (some ⟨Bp, 0, none⟩), .pointer (some ⟨Bd, 0, none⟩), .pointer (some ⟨Bw, 0, none⟩), .pointer (some ⟨Bc, 0, none⟩)]] :: row 3 1 (.slice A8 (lc + 1) c8) (lc + 1) (i64s (cl ++ [x])) :: ps) hO9 rfl); clear hO9) | (refine step_appF rfl (.tmp 38) (.tmp 43) 61 rfl stI ((I3.out.ext (Below.refl _ _).drew).ext (below_alloc _ (.cells #[.int .i64 x] 3))) (olds := i64s cl) rfl rfl (lc + 1) (i64s (cl ++ [x])) ?_ [.int .i64 x] rfl (i64s_app cl x) ((H0.out.below (Below.refl _ _).drew).below (below_alloc _ _)) HOL.out (Rd.new _ #[.int .i64 x] 3) (by decide) rfl (by simp [Value.oneCell']) (by unfold maxLen; omega) (by omega); intro A8 c8 w8 hc8 hO8; have HO8 := Lib.hid hO8; clear hO8))
      clear x3 x5 x6 xl l3 l6 kp lp
      go_wp2_with fail
      have HOX := Lib.hid ((HO9.out.perm (List.perm_middle (l₁ := envL Bn Bv Bf Bp Bd Bw Bc n cv np cp nd fw Av (some ⟨bp, op, none⟩) fv9) (l₂ := ps) (a := row 3 1 (.slice A8 (lc + 1) c8) (lc + 1) (i64s (cl ++ [x]))))).tail)
      go_roundg (gk - 1)
      case measure => have := I2.out; omega
      case rel => exact ⟨i + 1, by omega, by rw [HI16.out], fv9, HE.out, by have := I2.out; omega, HOX.out⟩
    | some r => as_aux_lemma =>
      rw [hR2] at HC3 HN1
      have HE := Lib.hid (show RS = some r from I1.out.symm.trans HN1.out)
      clear hR2 HN1
      go_upto_region 7 with fail
      go_region_held3 (fun w' => (w'.cell? ⟨Bc, 0, none⟩ = some (.func (.func 78) #[] #[.pointer (some ⟨Bn, 0, none⟩), .pointer (some ⟨Bv, 0, none⟩), .pointer (some ⟨Bf, 0, none⟩), .pointer (some ⟨Bp, 0, none⟩), .pointer (some ⟨Bd, 0, none⟩), .pointer (some ⟨Bw, 0, none⟩), .pointer (some ⟨Bc, 0, none⟩)]) ∧ w'.cell? ⟨Bp, 0, none⟩ = some (.slice (some ⟨bp, op, none⟩) np cp)) ∧ w'.cell? ⟨bp, op + i, none⟩ = some (.int .i64 x)) (first | go_keep | exact ⟨⟨(HO9.out.bx 7 rfl).1 0 _ rfl, (HO9.out.bx 4 rfl).1 0 _ rfl⟩, (HPC.out _ HO9.out.bel).1⟩ | exact ⟨⟨(HO8.out.bx 7 rfl).1 0 _ rfl, (HO8.out.bx 4 rfl).1 0 _ rfl⟩, (HPC.out _ HO8.out.bel).1⟩) (first | (go_at_call 78; refine (HC3.out A8 c8 _ hc8 HO8.out).mono ?_; rintro e w9 ⟨rfl, A9, c9, hO9⟩; have HO9 := Lib.hid (Own.cast (qs := row 3 1 (.slice A9 n c9) n (i64s r) :: box Bn 3 [.int .i64 (n : Nat)] :: box Bv 61 [.slice Av 31 cv] :: box Bf 61 [.slice A9 n c9] :: box Bp 61 [.slice (some ⟨bp, op, none⟩) np cp] :: box Bd 3 [.int .i64 (nd : Nat)] :: box Bw 3 [.int .i64 (fw : Nat)] :: box Bc 73 [.func (.func 78) #[] #[.pointer (some ⟨Bn, 0, none⟩), .pointer (some ⟨Bv, 0, none⟩), .pointer (some ⟨Bf, 0, none⟩), .pointer (some ⟨Bp, 0, none⟩), .pointer (some ⟨Bd, 0, none⟩), .pointer (some ⟨Bw, 0, none⟩), .pointer (some ⟨Bc, 0, none⟩)]] :: row 3 1 (.slice A8 (lc + 1) c8) (lc + 1) (i64s (cl ++ [x])) :: ps) hO9 rfl); clear hO9) | (refine step_appF rfl (.tmp 38) (.tmp 43) 61 rfl stI ((I3.out.ext (Below.refl _ _).drew).ext (below_alloc _ (.cells #[.int .i64 x] 3))) (olds := i64s cl) rfl rfl (lc + 1) (i64s (cl ++ [x])) ?_ [.int .i64 x] rfl (i64s_app cl x) ((H0.out.below (Below.refl _ _).drew).below (below_alloc _ _)) HOL.out (Rd.new _ #[.int .i64 x] 3) (by decide) rfl (by simp [Value.oneCell']) (by unfold maxLen; omega) (by omega); intro A8 c8 w8 hc8 hO8; have HO8 := Lib.hid hO8; clear hO8))
      clear x3 x5 x6 xl l3 l6 kp lp
      go_wp2_with fail
      have HOX := Lib.hid ((HO9.out.perm (List.perm_middle (l₁ := row 3 1 (.slice A9 n c9) n (i64s r) :: envL Bn Bv Bf Bp Bd Bw Bc n cv np cp nd fw Av (some ⟨bp, op, none⟩) (.slice A9 n c9)) (l₂ := ps) (a := row 3 1 (.slice A8 (lc + 1) c8) (lc + 1) (i64s (cl ++ [x]))))).tail)
      go_ret
      rw [HE.out]
      exact ⟨rfl, A9, c9, HOX.out⟩
theorem choose_any (v pl : List Int) (w0 : World) (Bn Bv Bf Bp Bd Bw Bc n cv np cp nd fw : Nat) (Av Ap : Option Addr) (hv : Rd w0 Av (i64s v)) (hp : Rd w0 Ap (i64s pl)) (h31 : 31 = v.length) (hnp : np = pl.length) (hnp2 : np ≤ 1000) (vi : In31 v) (pi : In31 pl) (h1 : 1 ≤ n) (h4 : n ≤ 4) (hnd : nd = need np n) (hfw : fw ≤ np) : ∀ k, ChSays v pl w0 Bn Bv Bf Bp Bd Bw Bc n cv np cp nd fw Av Ap k
  | 0 => choose_step v pl w0 Bn Bv Bf Bp Bd Bw Bc n cv np cp nd fw Av Ap hv hp h31 hnp hnp2 vi pi h1 h4 hnd hfw 0 (fun _ h => by omega)
  | k + 1 => choose_step v pl w0 Bn Bv Bf Bp Bd Bw Bc n cv np cp nd fw Av Ap hv hp h31 hnp hnp2 vi pi h1 h4 hnd hfw (k + 1) (fun k' h => (show k = k' by omega) ▸ choose_any v pl w0 Bn Bv Bf Bp Bd Bw Bc n cv np cp nd fw Av Ap hv hp h31 hnp hnp2 vi pi h1 h4 hnd hfw k)
end Go.Proofs.YtnienfgaidccpaaDoor
