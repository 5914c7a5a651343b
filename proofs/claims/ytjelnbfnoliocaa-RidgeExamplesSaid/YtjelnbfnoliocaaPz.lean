/- Ridge: the minutiae of the specification. No condition. -/
import Derived.Test.YtjelnbfnoliocaaPy
namespace Go.Proofs.Ytjelnbfnoliocaa
open Go.RowKit Go.Shelf
attribute [local go_sem] Oper.semAt_some

/-- one minutia: place, kind and direction. -/
def mntE (W H : Int) (l : List Bool) (p : Int × Int) : List Value :=
  [.int .i64 p.1, .int .i64 p.2, .int .u8 (if 3 ≤ crossN (nbF W H l p.1 p.2) 8 then 2 else 1), .int .u8 (firstN (nbF W H l p.1 p.2) : Nat)]
theorem mntE_len (W H : Int) (l : List Bool) (p : Int × Int) : (mntE W H l p).length = 4 := rfl
theorem st62 : SlTy Try.prog 62 77 (.agg #[.int .i64 0, .int .i64 0, .int .u8 0, .int .u8 0]) 4 24 := ⟨Try.underlying62, by kernel_rfl, rfl, by decide⟩
def goodP (W H : Int) (l : List Bool) (E : Int) (p : Int × Int) : Bool :=
  (crossN (nbF W H l p.1 p.2) 8 == 1 || decide (3 ≤ crossN (nbF W H l p.1 p.2) 8)) && (decide (E ≤ p.1) && (decide (E ≤ p.2) && (decide (E ≤ W - 1 - p.1) && decide (E ≤ H - 1 - p.2))))
def minP (W H : Int) (l : List Bool) (E : Int) (ps : List (Int × Int)) : List (Int × Int) := ps.filter (goodP W H l E)
theorem minP_snoc (W H : Int) (l : List Bool) (E : Int) (ps : List (Int × Int)) (p : Int × Int) : minP W H l E (ps ++ [p]) = minP W H l E ps ++ if goodP W H l E p then [p] else [] := by
  unfold minP
  rw [List.filter_append]
  cases h : goodP W H l E p <;> simp [h]
theorem minP_len (W H : Int) (l : List Bool) (E : Int) (ps : List (Int × Int)) : (minP W H l E ps).length ≤ ps.length := List.length_filter_le _ _
def minI (W H : Int) (l : List Bool) (E : Int) (k : Nat) : List (Int × Int) := minP W H l E ((pixI l k).map (plc W))
theorem minI_succ (W H : Int) (l : List Bool) (E : Int) (k : Nat) : minI W H l E (k + 1) = minI W H l E k ++ if l.getD k false && goodP W H l E (plc W k) then [plc W k] else [] := by
  cases h : l.getD k false
  · rw [minI, pixI_no h]
    exact (List.append_nil _).symm
  · rw [minI, pixI_yes h, List.map_append, List.map_cons, List.map_nil, minP_snoc]
    rfl
theorem minI_len (W H : Int) (l : List Bool) (E : Int) (k : Nat) : (minI W H l E k).length ≤ k := Nat.le_trans (minP_len _ _ _ _ _) (by rw [List.length_map]; exact pixI_len l k)
def MinPost (W H : Int) (l : List Bool) (ms : List (Int × Int)) (e0 : Int) (w : World) (e : Ending) (w' : World) : Prop :=
  ∃ A c, e = .returned (.tuple #[.slice A ms.length c, .int .i64 e0]) ∧ Own w w' [row 77 4 (.slice A ms.length c) ms.length (flat (mntE W H l) ms)]
set_option maxRecDepth 100000 in
set_option maxHeartbeats 1000000 in
theorem refMin_no (W H E : Int) (A : Option Addr) (l : List Bool) (n c : Nat) (w : World) (ok : sized1B W H n = false) :
    Calls Try.prog 40 #[.agg #[.int .i64 W, .int .i64 H, .slice A n c], .int .i64 E] w (MinPost W H l [] 10 w) := by
  have HCk := Lib.hid (fun W1 => (show Calls Try.prog 44 #[.agg #[.int .i64 W, .int .i64 H, .slice A n c]] W1 fun e w' => e = .returned (.bool false) ∧ Below W1.heap.size W1 w' by have := valid_any W H A n c W1; rw [ok] at this; exact this))
  have S0 := Lib.hid ((Own.start w).new 34 #[.int .i64 W, .int .i64 H, .slice A n c])
  obtain ⟨t0, t1, t2, _⟩ := (S0.out.bx 0 rfl).c3
  clear ok
  go_enter Try.func40, Try.ntmps40
  go_wp2_with fail
  refine (HCk.out _).mono ?_
  rintro e w1 ⟨rfl, hb⟩
  have S1 := Lib.hid (S0.out.ext hb)
  clear hb t0 t1 t2
  go_wp2_with fail
  exact bodyPost_ret (v := .tuple #[.slice none 0 0, .int .i64 10]) (by simp [results, Try.results40, go_sem]) rfl ⟨none, 0, rfl, (S1.out.sub [] (by decide) (qs := []) rfl).nil 77 4⟩
set_option maxRecDepth 100000 in
set_option maxHeartbeats 1000000 in
theorem refMin_edge (W H E : Int) (A : Option Addr) (l : List Bool) (n c : Nat) (w : World) (ok : sized1B W H n = true) (hE : inB 0 20 E = false) :
    Calls Try.prog 40 #[.agg #[.int .i64 W, .int .i64 H, .slice A n c], .int .i64 E] w (MinPost W H l [] 2 w) := by
  have HCk := Lib.hid (fun W1 => (show Calls Try.prog 44 #[.agg #[.int .i64 W, .int .i64 H, .slice A n c]] W1 fun e w' => e = .returned (.bool true) ∧ Below W1.heap.size W1 w' by have := valid_any W H A n c W1; rw [ok] at this; exact this))
  have HCE := Lib.hid (fun W1 => (show Calls Try.prog 59 #[.int .i64 E, .int .i64 0, .int .i64 20] W1 fun e w' => e = .returned (.bool false) ∧ W1 = w' by have := refWithin_any 0 20 E W1; rw [hE] at this; exact this))
  have S0 := Lib.hid ((Own.start w).new 34 #[.int .i64 W, .int .i64 H, .slice A n c])
  obtain ⟨t0, t1, t2, _⟩ := (S0.out.bx 0 rfl).c3
  clear ok hE
  go_enter Try.func40, Try.ntmps40
  go_wp2_with fail
  refine (HCk.out _).mono ?_
  rintro e w1 ⟨rfl, hb⟩
  have S1 := Lib.hid (S0.out.ext hb)
  clear hb t0 t1 t2
  go_wp2_with fail
  refine (HCE.out _).mono ?_
  rintro e w2 ⟨rfl, rfl⟩
  go_wp2_with fail
  exact bodyPost_ret (v := .tuple #[.slice none 0 0, .int .i64 2]) (by simp [results, Try.results40, go_sem]) rfl ⟨none, 0, rfl, (S1.out.sub [] (by decide) (qs := []) rfl).nil 77 4⟩
set_option maxRecDepth 100000 in
set_option maxHeartbeats 4000000 in
theorem refMin_ok (W H E : Int) (A : Option Addr) (l : List Bool) (n c : Nat) (w : World) (hv : sized1B W H n = true) (hE : inB 0 20 E = true) (hr : Rd w A (bools l)) (hn : n = l.length) :
    Calls Try.prog 40 #[.agg #[.int .i64 W, .int .i64 H, .slice A n c], .int .i64 E] w (MinPost W H l (minI W H l E n) 0 w) := by
  obtain ⟨hW, hH, hWH⟩ := valid_bd hv
  have hWHb : W * H ≤ 20 * 20 := Int.mul_le_mul (by omega) (by omega) (by omega) (by omega)
  have hn400 : n ≤ 400 := by omega
  have hn1 : 1 ≤ n := by
    have : 1 * 1 ≤ W * H := Int.mul_le_mul (by omega) (by omega) (by omega) (by omega)
    omega
  have hEb : 0 ≤ E ∧ E ≤ 20 := by simpa [inB] using hE
  obtain ⟨hE0, hE1⟩ := hEb
  obtain ⟨b0, off, rfl, hb0, hc0⟩ := hr.at_ (bools_get (show 0 < l.length by omega))
  have HC0 := Lib.hid (fun W1 (h : Below w.heap.size w W1) j (hj : j < l.length) => (h.cell (p := ⟨b0, off + j, none⟩) hb0).trans (hc0 j _ (bools_get hj)))
  have hbw : ∀ W1, Below w.heap.size w W1 → b0 < W1.heap.size := fun W1 h => by have := h.size; omega
  have HBW := Lib.hid hbw
  have HCk := Lib.hid (fun W1 => (show Calls Try.prog 44 #[.agg #[.int .i64 W, .int .i64 H, .slice (some ⟨b0, off, none⟩) n c]] W1 fun e w' => e = .returned (.bool true) ∧ Below W1.heap.size W1 w' by have := valid_any W H (some ⟨b0, off, none⟩) n c W1; rw [hv] at this; exact this))
  have HCE := Lib.hid (fun W1 => (show Calls Try.prog 59 #[.int .i64 E, .int .i64 0, .int .i64 20] W1 fun e w' => e = .returned (.bool true) ∧ W1 = w' by have := refWithin_any 0 20 E W1; rw [hE] at this; exact this))
  have C68 := Lib.hid (fun (x y : Int) W1 (h : Below w.heap.size w W1) h1 h2 => crossed_any W H x y (some ⟨b0, off, none⟩) l n c W1 hv (hr.below h) hn h1 h2)
  have C74 := Lib.hid (fun (x y : Int) W1 (h : Below w.heap.size w W1) h1 h2 => first_any W H x y (some ⟨b0, off, none⟩) l n c W1 hv (hr.below h) hn h1 h2)
  have HN := Lib.hid hn
  have HWH := Lib.hid hWH
  have S0 := Lib.hid ((Own.start w).new 34 #[.int .i64 W, .int .i64 H, .slice (some ⟨b0, off, none⟩) n c])
  obtain ⟨t0, t1, t2, _⟩ := (S0.out.bx 0 rfl).c3
  clear hv hE hr hn hWH hWHb hc0 hb0 hbw
  go_enter Try.func40, Try.ntmps40
  go_wp2_with fail
  refine (HCk.out _).mono ?_
  rintro e w1 ⟨rfl, hb⟩
  have S1 := Lib.hid (S0.out.ext hb)
  clear hb t0 t1 t2
  go_wp2_with fail
  refine (HCE.out _).mono ?_
  rintro e w2 ⟨rfl, rfl⟩
  have S2 := Lib.hid ((S1.out.nil 77 4).cast (qs := [row 77 4 (.slice none 0 0) 0 [], box w.heap.size 34 [.int .i64 W, .int .i64 H, .slice (some ⟨b0, off, none⟩) n c]]) rfl)
  go_wp2_with fail
  go_loopg [6, 7] n (fun k u6 u7 wr => ∃ (i : Nat) (A1 : Option Addr) (c1 : Nat), i ≤ n ∧ u7 = .int .i64 i ∧ u6 = .slice A1 (minI W H l E i).length c1 ∧ Hid (i + k = n ∧ Own w wr [row 77 4 (.slice A1 (minI W H l E i).length c1) (minI W H l E i).length (flat (mntE W H l) (minI W H l E i)), box w.heap.size 34 [.int .i64 W, .int .i64 H, .slice (some ⟨b0, off, none⟩) n c]]))
  case atStart => exact ⟨0, none, 0, by omega, rfl, rfl, by omega, S2.out⟩
  case round =>
    clear S0 S1 S2 HCk HCE
    obtain ⟨i, A1, c1, hi, rfl, rfl, hI⟩ := hrel
    have I1 := Lib.hid hI.out.1
    have I2 := Lib.hid hI.out.2
    clear hI
    obtain ⟨t0, t1, t2, _⟩ := (I2.out.bx 1 rfl).c3
    have lt := (I2.out.bx 1 rfl).2.2
    by_cases hlt : i < n
    case neg =>
      obtain rfl : i = n := by omega
      go_wp2_with fail
      exact bodyPost_ret (v := .tuple #[.slice A1 (minI W H l E i).length c1, .int .i64 0]) (by simp [results, Try.results40, go_sem]) rfl ⟨A1, c1, rfl, I2.out.sub [0] (by decide) rfl⟩
    have hin : (i : Int) < (n : Int) := by omega
    obtain ⟨⟨⟨p1, p2⟩, p3, p4⟩, p5⟩ := plc_in hW hH HWH.out hlt
    simp only [plc] at p1 p2 p3 p4
    have z1 : ¬ W = 0 := by omega
    have z3 : (i : Int).tmod W = (i : Int) % W := Int.tmod_eq_emod_of_nonneg (by omega)
    have z4 : IntKind.i64.wrap ((i : Int) / W) = (i : Int) / W := IntWalk.i64_in _ (by omega)
    have hil : i < l.length := by rw [← HN.out]; exact hlt
    have HMS := Lib.hid (show minI W H l E (i + 1) = minI W H l E i ++ if l[i] && goodP W H l E ((i : Int) % W, (i : Int) / W) then [((i : Int) % W, (i : Int) / W)] else [] by rw [minI_succ, List.getD_eq_getElem?_getD, List.getElem?_eq_getElem hil]; rfl)
    have HML := Lib.hid (minI_len W H l E i)
    clear p5
    generalize minI W H l E i = m at *
    go_wp2_with fail
    have c0 := fun x : OwnOf w [row 77 4 (.slice A1 m.length c1) m.length (flat (mntE W H l) m), box w.heap.size 34 [.int .i64 W, .int .i64 H, .slice (some ⟨b0, off, none⟩) n c]] => (x.bx 1 rfl).1 0 _ rfl
    have hne : Nonempty (OwnOf w [row 77 4 (.slice A1 m.length c1) m.length (flat (mntE W H l) m), box w.heap.size 34 [.int .i64 W, .int .i64 H, .slice (some ⟨b0, off, none⟩) n c]]) := ⟨⟨_, I2.out⟩⟩
    refine wp_region_own I2.out (by kernel_rfl) (by kernel_rfl) ?_
    iterate 10 (go_big_quiet_step (fail))
    refine wpQuiet_nil ?_
    rintro w3 ⟨z, hz⟩
    have I3 := Lib.hid (show Own w w3 [row 77 4 (.slice A1 m.length c1) m.length (flat (mntE W H l) m), box w.heap.size 34 [.int .i64 W, .int .i64 H, .slice (some ⟨b0, off, none⟩) n c]] by rw [hz]; exact z.own)
    clear hz z hne c0 z1 z3 z4 t0 t1 t2 lt I2
    generalize (i : Int) % W = x at *
    generalize (i : Int) / W = y at *
    have HB := Lib.hid (show mntE W H l (x, y) = [.int .i64 x, .int .i64 y, .int .u8 (if 3 ≤ crossN (nbF W H l x y) 8 then 2 else 1), .int .u8 (firstN (nbF W H l x y) : Nat)] from rfl)
    have HG := Lib.hid (show goodP W H l E (x, y) = ((crossN (nbF W H l x y) 8 == 1 || decide (3 ≤ crossN (nbF W H l x y) 8)) && (decide (E ≤ x) && (decide (E ≤ y) && (decide (E ≤ W - 1 - x) && decide (E ≤ H - 1 - y))))) from rfl)
    have N68 := Lib.hid (fun W1 h => C68.out x y W1 h (by omega) (by omega))
    have N74 := Lib.hid (fun W1 h => C74.out x y W1 h (by omega) (by omega))
    clear C68 C74
    have hq8 := crossN_le (nbF W H l x y) 8
    generalize goodP W H l E (x, y) = gd at *
    generalize nbF W H l x y = r at *
    have hf8 := firstN_lt r
    generalize firstN r = f at *
    generalize crossN r 8 = q at *
    obtain ⟨t0, t1, t2, _⟩ := (I3.out.bx 1 rfl).c3
    have lt := (I3.out.bx 1 rfl).2.2
    go_wp2_with fail
    refine (N68.out _ I3.out.bel).mono ?_
    rintro e w4 ⟨rfl, hb4⟩
    have I4 := Lib.hid (I3.out.ext hb4)
    clear hb4 t0 t1 t2 lt I3 N68
    obtain ⟨t0, t1, t2, _⟩ := (I4.out.bx 1 rfl).c3
    have lt := (I4.out.bx 1 rfl).2.2
    have k0 := HC0.out w4 I4.out.bel i hil
    have lb := HBW.out w4 I4.out.bel
    generalize l[i] = v at *
    go_upto_region 11 with fail
    go_cut [78] from 37 to 78 (fun u78 wx => u78 = .bool (!(v && gd)) ∧ Hid (Own w wx [row 77 4 (.slice A1 m.length c1) m.length (flat (mntE W H l) m), box w.heap.size 34 [.int .i64 W, .int .i64 H, .slice (some ⟨b0, off, none⟩) n c]]))
    case first =>
      as_aux_lemma =>
      cases v
      · go_wp2_with fail
        go_meet
        exact ⟨rfl, I4.out⟩
      by_cases hq : q = 1
      · subst hq
        by_cases h1 : x < E
        · have HV := Lib.hid (show gd = false by rw [HG.out]; simp; omega)
          go_wp2_with fail
          go_meet
          exact ⟨by rw [HV.out]; rfl, I4.out⟩
        by_cases h2 : y < E
        · have HV := Lib.hid (show gd = false by rw [HG.out]; simp; omega)
          go_wp2_with fail
          go_meet
          exact ⟨by rw [HV.out]; rfl, I4.out⟩
        by_cases h3 : W - 1 - x < E
        · have HV := Lib.hid (show gd = false by rw [HG.out]; simp; omega)
          go_wp2_with fail
          go_meet
          exact ⟨by rw [HV.out]; rfl, I4.out⟩
        by_cases h4 : H - 1 - y < E
        · have HV := Lib.hid (show gd = false by rw [HG.out]; simp; omega)
          go_wp2_with fail
          go_meet
          exact ⟨by rw [HV.out]; rfl, I4.out⟩
        · have HV := Lib.hid (show gd = true by rw [HG.out]; simp; omega)
          go_wp2_with fail
          go_meet
          exact ⟨by rw [HV.out]; rfl, I4.out⟩
      · have f1 : ((q : Int) != 1) = true := by simp; omega
        by_cases hq3 : (q : Int) < 3
        · have HV := Lib.hid (show gd = false by rw [HG.out]; simp; omega)
          clear hq
          go_wp2_with fail
          go_meet
          exact ⟨by rw [HV.out]; rfl, I4.out⟩
        by_cases h1 : x < E
        · have HV := Lib.hid (show gd = false by rw [HG.out]; simp; omega)
          clear hq
          go_wp2_with fail
          go_meet
          exact ⟨by rw [HV.out]; rfl, I4.out⟩
        by_cases h2 : y < E
        · have HV := Lib.hid (show gd = false by rw [HG.out]; simp; omega)
          clear hq
          go_wp2_with fail
          go_meet
          exact ⟨by rw [HV.out]; rfl, I4.out⟩
        by_cases h3 : W - 1 - x < E
        · have HV := Lib.hid (show gd = false by rw [HG.out]; simp; omega)
          clear hq
          go_wp2_with fail
          go_meet
          exact ⟨by rw [HV.out]; rfl, I4.out⟩
        by_cases h4 : H - 1 - y < E
        · have HV := Lib.hid (show gd = false by rw [HG.out]; simp; omega)
          clear hq
          go_wp2_with fail
          go_meet
          exact ⟨by rw [HV.out]; rfl, I4.out⟩
        · have HV := Lib.hid (show gd = true by rw [HG.out]; simp; omega)
          clear hq
          go_wp2_with fail
          go_meet
          exact ⟨by rw [HV.out]; rfl, I4.out⟩
    case rest =>
      obtain ⟨rfl, hS⟩ := hcut
      have I5 := hS
      clear I4 hS t0 t1 t2 lt k0 lb
      generalize hbb : (v && gd) = bb at *
      have HBB := Lib.hid hbb
      clear hbb
      cases bb
      · have HM2 := Lib.hid (show minI W H l E (i + 1) = m by rw [HMS.out]; simp)
        go_wp2_with fail
        go_roundg (gk - 1)
        case measure => have := I1.out; omega
        case rel => exact ⟨i + 1, A1, c1, by omega, by go_num, by rw [HM2.out], by have := I1.out; omega, by rw [HM2.out]; exact I5.out⟩
      · have HM2 := Lib.hid (show minI W H l E (i + 1) = m ++ [(x, y)] by rw [HMS.out]; simp)
        have hml : m.length ≤ 400 := by have := HML.out; omega
        obtain ⟨t0, t1, t2, _⟩ := (I5.out.bx 1 rfl).c3
        have lt := (I5.out.bx 1 rfl).2.2
        go_wp2_with fail
        refine (N74.out _ I5.out.bel).mono ?_
        rintro e w6 ⟨rfl, hb6⟩
        have I6 := Lib.hid (((I5.out.ext hb6).new' 77 #[.int .i64 x, .int .i64 y, .int .u8 1, .int .u8 (f : Int)] (B := w6.heap.size) rfl).cast (qs := [box w6.heap.size 77 [.int .i64 x, .int .i64 y, .int .u8 1, .int .u8 (f : Int)], row 77 4 (.slice A1 m.length c1) m.length (flat (mntE W H l) m), box w.heap.size 34 [.int .i64 W, .int .i64 H, .slice (some ⟨b0, off, none⟩) n c]]) rfl)
        clear hb6 t0 t1 t2 lt N74
        by_cases hq3 : 3 ≤ q
        · have hq4 : ¬ (q : Int) < 3 := by omega
          rw [if_pos hq3] at HB
          clear hq3
          go_upto_region 13 with fail
          generalize w6.alloc _ = w7 at *
          generalize w6.heap.size = X at *
          have I7 := Lib.hid ((I6.out.set 0 rfl 2 (.int .u8 2)).cast (qs := [box X 77 [.int .i64 x, .int .i64 y, .int .u8 2, .int .u8 (f : Int)], row 77 4 (.slice A1 m.length c1) m.length (flat (mntE W H l) m), box w.heap.size 34 [.int .i64 W, .int .i64 H, .slice (some ⟨b0, off, none⟩) n c]]) rfl)
          have d2 := (I6.out.bx 0 rfl).1 2 _ rfl
          have ld := (I6.out.bx 0 rfl).2.2
          have fd := (I6.out.bx 0 rfl).2.1
          go_upto_region 15 with fail
          generalize w7.setCell _ _ = w8 at *
          clear d2 ld fd
          have d0 := (I7.out.bx 0 rfl).1 0 _ rfl
          have d1 := (I7.out.bx 0 rfl).1 1 _ rfl
          have d2 := (I7.out.bx 0 rfl).1 2 _ rfl
          have d3 := (I7.out.bx 0 rfl).1 3 _ rfl
          have ld := (I7.out.bx 0 rfl).2.2
          have I8 := Lib.hid (I7.out.ext (below_alloc w8 (.cells #[.int .i64 x, .int .i64 y, .int .u8 2, .int .u8 (f : Int)] 77)))
          go_wp2_with (at_builtin; refine wpList_appP rfl (.tmp 89) (.tmp 91) 62 rfl st62 1 I8.out rfl rfl rfl (m.length + 1) (flat (mntE W H l) (m ++ [(x, y)])) ?_ (mntE W H l (x, y)) rfl (by rw [flat_append, flat_cons, flat_nil, List.append_nil]) (by rw [HB.out]; exact Rd.new w8 #[.int .i64 x, .int .i64 y, .int .u8 2, .int .u8 (f : Int)] 77) rfl (by simp [mntE, Value.oneCell']) (by unfold maxLen; omega) (by omega); intro A3 c3 w9 hO9; have HO9 := Lib.hid hO9; clear hO9 d0 d1 d2 d3 ld)
          go_roundg (gk - 1)
          case measure => have := I1.out; omega
          case rel => exact ⟨i + 1, A3, c3, by omega, by go_num, by rw [HM2.out]; simp, by have := I1.out; omega, by rw [HM2.out, show (m ++ [(x, y)]).length = m.length + 1 by simp]; exact HO9.out.sub [1, 2] (by decide) rfl⟩
        · have hq4 : (q : Int) < 3 := by omega
          rw [if_neg hq3] at HB
          clear hq3
          go_upto_region 15 with fail
          generalize w6.alloc _ = w8 at *
          generalize w6.heap.size = X at *
          have d0 := (I6.out.bx 0 rfl).1 0 _ rfl
          have d1 := (I6.out.bx 0 rfl).1 1 _ rfl
          have d2 := (I6.out.bx 0 rfl).1 2 _ rfl
          have d3 := (I6.out.bx 0 rfl).1 3 _ rfl
          have ld := (I6.out.bx 0 rfl).2.2
          have I8 := Lib.hid (I6.out.ext (below_alloc w8 (.cells #[.int .i64 x, .int .i64 y, .int .u8 1, .int .u8 (f : Int)] 77)))
          go_wp2_with (at_builtin; refine wpList_appP rfl (.tmp 89) (.tmp 91) 62 rfl st62 1 I8.out rfl rfl rfl (m.length + 1) (flat (mntE W H l) (m ++ [(x, y)])) ?_ (mntE W H l (x, y)) rfl (by rw [flat_append, flat_cons, flat_nil, List.append_nil]) (by rw [HB.out]; exact Rd.new w8 #[.int .i64 x, .int .i64 y, .int .u8 1, .int .u8 (f : Int)] 77) rfl (by simp [mntE, Value.oneCell']) (by unfold maxLen; omega) (by omega); intro A3 c3 w9 hO9; have HO9 := Lib.hid hO9; clear hO9 d0 d1 d2 d3 ld)
          go_roundg (gk - 1)
          case measure => have := I1.out; omega
          case rel => exact ⟨i + 1, A3, c3, by omega, by go_num, by rw [HM2.out]; simp, by have := I1.out; omega, by rw [HM2.out, show (m ++ [(x, y)]).length = m.length + 1 by simp]; exact HO9.out.sub [1, 2] (by decide) rfl⟩
end Go.Proofs.Ytjelnbfnoliocaa
