/- Sketch: the walk of SketchPlaces. No condition. -/
import Derived.Test.YtnienfgaidccpaaDoorOa
import Derived.Test.YtnienfgaidccpaaDoorNc
namespace Go.Proofs.YtnienfgaidccpaaDoor
open Go.RowKit Go.Shelf
attribute [local go_sem] Oper.semAt_some

theorem lok_is {l pl : List Int} (s : Int) {x : Nat} : (valF l (x : Int) = lokF l pl s x) ↔ (x : Int) ∈ pl := by
  unfold lokF
  have h1 := valF_range l (x : Int)
  generalize valF l (x : Int) = a at *
  generalize s + 7 * (x : Int) * x * x + 3 * (x : Int) = t
  by_cases h : (x : Int) ∈ pl
  · rw [if_pos h]
    exact ⟨fun _ => h, fun _ => by omega⟩
  · rw [if_neg h]
    exact ⟨fun e => by omega, fun e => absurd e h⟩
theorem cnt_of (p : Nat → Bool) : ∀ (m : Nat) (L : List Int), L.Nodup → (∀ x ∈ L, ∃ k : Nat, x = k ∧ k < m ∧ p k = true) → L.length ≤ (List.range m).countP p
  | 0, L, _, h => by
    cases L with
    | nil => simp
    | cons x L => obtain ⟨k, _, hk, _⟩ := h x (by simp); omega
  | m + 1, L, hn, h => by
    rw [List.range_succ, List.countP_append, List.countP_singleton]
    by_cases hm : (m : Int) ∈ L
    · have h1 := cnt_of p m (L.erase (m : Int)) (hn.erase _) (fun x hx => by
        obtain ⟨e1, e2⟩ := (hn.mem_erase_iff).1 hx
        obtain ⟨k, rfl, hk, hp⟩ := h x e2
        exact ⟨k, rfl, by omega, hp⟩)
      rw [List.length_erase_of_mem hm] at h1
      obtain ⟨k, hk1, _, hp⟩ := h _ hm
      have e : k = m := by omega
      subst e
      rw [if_pos hp]
      omega
    · have h1 := cnt_of p m L hn (fun x hx => by
        obtain ⟨k, rfl, hk, hp⟩ := h x hx
        have : k ≠ m := fun e => hm (e ▸ hx)
        exact ⟨k, rfl, by omega, hp⟩)
      omega
theorem fitC_pos {v : List Int} {s least : Int} {b : Nat} (hb : b < 31) (h : least ≤ ((votC v s 31 b : Nat) : Int)) : 1 ≤ fitC v s least 31 := by
  unfold fitC
  exact List.countP_pos_iff.2 ⟨b, List.mem_range.2 hb, by simpa using h⟩
theorem rivF_pos {v : List Int} {least : Int} {s : Nat} (h : 1 ≤ fitC v (s : Int) least 31) : ∀ k, s < k → 1 ≤ rivF v least k
  | 0, hk => by omega
  | k + 1, hk => by
    simp only [rivF]
    by_cases e : s = k
    · subst e; omega
    · have := rivF_pos h k (by omega); omega
theorem rivF_mono {v : List Int} {a b : Int} (h : a ≤ b) : ∀ k, rivF v b k ≤ rivF v a k
  | 0 => Nat.le_refl _
  | k + 1 => by
    have h1 := rivF_mono h (v := v) k
    have h2 : fitC v (k : Int) b 31 ≤ fitC v (k : Int) a 31 := List.countP_mono_left fun x _ hx => by simp at hx ⊢; omega
    simp only [rivF]
    omega
theorem rivF_all {v : List Int} {a : Int} (h : a ≤ 0) : ∀ k, rivF v a k = 31 * k
  | 0 => rfl
  | k + 1 => by
    have h2 : fitC v (k : Int) a 31 = 31 := by
      unfold fitC
      rw [List.countP_eq_length.2 (fun x _ => by simp; omega), List.length_range]
    have h1 := rivF_all h (v := v) k
    simp only [rivF]
    omega
theorem riv_one {l pl : List Int} (s : Int) {least : Int} (h1 : 1 ≤ l.length) (h2 : l.length ≤ 2) (hl : In31 l) (hp : setB pl = true) (hle : least ≤ (pl.length : Int)) : 1 ≤ rivF (tab 31 (lokF l pl s)) least (if (l.length : Int) = 2 then 31 else 1) := by
  obtain ⟨p1, p2⟩ := setB_ok pl hp
  have hnd : pl.Nodup := p2.imp fun h => Int.ne_of_lt h
  have key : ∀ (σ b : Nat), b < 31 → (∀ x : Int, (valF l x - (σ : Int) * x) % 31 = (b : Int)) → 1 ≤ fitC (tab 31 (lokF l pl s)) (σ : Int) least 31 := fun σ b hb hv => by
    refine fitC_pos hb (Int.le_trans hle ?_)
    have := cnt_of (fun x : Nat => decide ((vaV (tab 31 (lokF l pl s)) (x : Int) - (σ : Int) * (x : Int)) % 31 = (b : Int))) 31 pl hnd (fun x hx => by
      obtain ⟨k, rfl⟩ := Int.eq_ofNat_of_zero_le (p1 x hx).1
      have hk := (p1 _ hx).2
      refine ⟨k, rfl, by omega, ?_⟩
      rw [← lok_at s (p1 _ hx) hx]
      exact decide_eq_true (hv k))
    unfold votC
    omega
  rcases l with _ | ⟨a, _ | ⟨b, _ | ⟨c, l⟩⟩⟩
  · simp at h1
  · obtain ⟨a1, a2⟩ := hl a (by simp)
    obtain ⟨k, rfl⟩ := Int.eq_ofNat_of_zero_le a1
    rw [if_neg (by simp)]
    exact rivF_pos (s := 0) (key 0 k (by omega) (fun x => by simp only [valF]; omega)) 1 (by omega)
  · obtain ⟨a1, a2⟩ := hl a (by simp)
    obtain ⟨b1, b2⟩ := hl b (by simp)
    obtain ⟨k, rfl⟩ := Int.eq_ofNat_of_zero_le a1
    obtain ⟨m, rfl⟩ := Int.eq_ofNat_of_zero_le b1
    rw [if_pos (by simp)]
    refine rivF_pos (s := m) (key m k (by omega) (fun x => ?_)) 31 (by omega)
    simp only [valF]
    have e : ((m : Int) + x * 0) % 31 = (m : Int) := by omega
    rw [e, Int.mul_comm (m : Int) x]
    generalize x * (m : Int) = t
    omega
  · simp at h2
/-- What is asked of the numbers of rivals. -/
theorem riv_law {l pl : List Int} (s : Int) {least k e : Int} (hlb : lokB l pl s = true) (h : rivR (tab 31 (lokF l pl s)) (l.length : Int) least = (k, e)) :
    (e = 0 ∨ e = 2) ∧ (e = 0 → (0 ≤ least ∧ least ≤ 31) ∧ l.length ≤ 2 ∧ 0 ≤ k ∧ k ≤ (if l.length = 2 then 961 else 31) ∧ (least ≤ (pl.length : Int) → 1 ≤ k) ∧ (least ≤ 0 → k = (if l.length = 2 then 961 else 31)) ∧ ∀ k2 e2, rivR (tab 31 (lokF l pl s)) (l.length : Int) (least + 1) = (k2, e2) → e2 = 0 → k2 ≤ k) := by
  unfold rivR at h
  obtain ⟨hsc, hsp⟩ := lokB_bd hlb
  obtain ⟨s1, s4, s31⟩ := secB_bd hsc
  by_cases hb : rivB (tab 31 (lokF l pl s)) (l.length : Int) least = true
  case neg =>
    rw [if_neg hb] at h
    injection h with h1 h2
    exact ⟨.inr h2.symm, fun h0 => by omega⟩
  rw [if_pos hb] at h
  injection h with h1 h2
  simp only [rivB, Bool.and_eq_true, decide_eq_true_eq] at hb
  obtain ⟨_, _, b1, b2, b3, b4⟩ := hb
  refine ⟨.inl h2.symm, fun _ => ⟨⟨b3, b4⟩, by omega, ?_⟩⟩
  have hle := rivF_le (tab 31 (lokF l pl s)) least (if (l.length : Int) = 2 then 31 else 1)
  have hpos := fun h => riv_one s s1 (by omega) s31 hsp (least := least) h
  have hall := fun h => rivF_all (v := tab 31 (lokF l pl s)) (a := least) h (if (l.length : Int) = 2 then 31 else 1)
  have hmono := rivF_mono (v := tab 31 (lokF l pl s)) (show least ≤ least + 1 by omega) (if (l.length : Int) = 2 then 31 else 1)
  have hm2 : ∀ k2 e2, rivR (tab 31 (lokF l pl s)) (l.length : Int) (least + 1) = (k2, e2) → e2 = 0 → k2 ≤ ((rivF (tab 31 (lokF l pl s)) (least + 1) (if (l.length : Int) = 2 then 31 else 1) : Nat) : Int) := fun k2 e2 hr h0 => by
    unfold rivR at hr
    split at hr
    · injection hr with r1 r2
      omega
    · injection hr with r1 r2
      omega
  generalize rivF (tab 31 (lokF l pl s)) (least + 1) (if (l.length : Int) = 2 then 31 else 1) = K2 at *
  generalize rivF (tab 31 (lokF l pl s)) least (if (l.length : Int) = 2 then 31 else 1) = K at *
  have hsl : (if (l.length : Int) = 2 then 31 else 1 : Nat) * 31 = (if l.length = 2 then 961 else 31) := by split <;> split <;> omega
  refine ⟨by omega, ?_, fun h => ?_, fun h => ?_, fun k2 e2 hr h0 => ?_⟩
  · split at hle <;> split <;> omega
  · have := hpos h; omega
  · have := hall h
    split at this <;> split <;> omega
  · have := hm2 k2 e2 hr h0; omega
set_option maxRecDepth 100000 in
set_option maxHeartbeats 4000000 in
theorem placesLaw_any (sc pl : List Int) (sd least : Int) (A1 A2 : Option Addr) (n1 n2 c1 c2 : Nat) (w : World) (hc : Cod w) (r1 : Rd w A1 (i64s sc)) (r2 : Rd w A2 (i64s pl)) (e1 : n1 = sc.length) (e2 : n2 = pl.length) :
    Calls Tryd.prog 10 #[.slice A1 n1 c1, .slice A2 n2 c2, .int .i64 sd, .int .i64 least] w fun e w' => e = .returned (.bool true) ∧ Below w.heap.size w w' := by
  have HC := Lib.hid (fun W (h : Below w.heap.size w W) => hc.below h)
  have K27 := Lib.hid (fun W (h : Below w.heap.size w W) => alive_any W (HC.out W h))
  have S := Lib.hid (Own.start w)
  by_cases d1 : n1 ≤ 100
  case neg => as_aux_lemma =>
    have g1 : (100 : Int) < (n1 : Int) := by omega
    clear hc r1 r2 e1 e2 d1
    go_enter Tryd.func10, Tryd.ntmps10
    go_wp2_with fail
    refine (K27.out _ S.out.bel).mono ?_
    rintro e w1 ⟨rfl, hb1⟩
    replace S := Lib.hid (S.out.ext hb1)
    clear hb1
    go_wp2_with fail
    go_ret
    exact ⟨rfl, S.out.bel⟩
  have g1 : ¬ (100 : Int) < (n1 : Int) := by omega
  by_cases d2 : n2 ≤ 100
  case neg => as_aux_lemma =>
    have g2 : (100 : Int) < (n2 : Int) := by omega
    clear hc r1 r2 e1 e2 d2
    go_enter Tryd.func10, Tryd.ntmps10
    go_wp2_with fail
    refine (K27.out _ S.out.bel).mono ?_
    rintro e w1 ⟨rfl, hb1⟩
    replace S := Lib.hid (S.out.ext hb1)
    clear hb1
    go_wp2_with fail
    go_ret
    exact ⟨rfl, S.out.bel⟩
  have g2 : ¬ (100 : Int) < (n2 : Int) := by omega
  have KL := fun W (h : Below w.heap.size w W) => lock_any sc pl sd A1 A2 n1 n2 c1 c2 W (r1.below h) (r2.below h) e1 e2 (by omega) (by omega)
  unfold IntsPost at KL
  rcases lok_cases sc pl sd with ⟨hlb, hlr⟩ | ⟨hlb, hlr⟩
  · as_aux_lemma =>
    rw [hlr] at KL
    dsimp only at KL
    replace KL := Lib.hid KL
    clear hlb hlr hc r1 r2 e1 e2 d1 d2
    go_enter Tryd.func10, Tryd.ntmps10
    go_wp2_with fail
    refine (K27.out _ S.out.bel).mono ?_
    rintro e w1 ⟨rfl, hb1⟩
    replace S := Lib.hid (S.out.ext hb1)
    clear hb1
    go_wp2_with fail
    refine (KL.out _ S.out.bel).mono ?_
    rintro e v1 ⟨A4, c4, rfl, hO⟩
    replace S := Lib.hid (S.out.call hO)
    clear hO
    go_wp2_with fail
    go_ret
    exact ⟨rfl, S.out.bel⟩
  rw [hlr] at KL
  dsimp only at KL
  rw [tab_len] at KL
  replace KL := Lib.hid KL
  obtain ⟨hsc, hsp⟩ := lokB_bd hlb
  obtain ⟨s1, s4, s31⟩ := secB_bd hsc
  have HIN := Lib.hid (fun x => lokF_in sc pl sd x)
  have HIS := Lib.hid (fun x : Nat => lok_is (l := sc) (pl := pl) sd (x := x))
  have KV := Lib.hid (fun (x : Nat) W (h : Below w.heap.size w W) (hx : x < 31) => refValueAt_any sc (x : Int) A1 n1 c1 W (r1.below h) e1 (by omega) s31 (by omega))
  have KI := Lib.hid (fun (x : Nat) W (h : Below w.heap.size w W) => refIn_any pl (x : Int) A2 n2 c2 W (r2.below h) e2 (by omega))
  have KR := Lib.hid (fun le A cv W (h : Rd W A (i64s (tab 31 (lokF sc pl sd)))) => rivals_any (tab 31 (lokF sc pl sd)) A 31 cv (n1 : Int) le W h (by rw [tab_len]) (by omega))
  obtain ⟨k1, f1, hk1⟩ : ∃ a b, rivR (tab 31 (lokF sc pl sd)) (sc.length : Int) least = (a, b) := ⟨_, _, rfl⟩
  obtain ⟨k2, f2, hk2⟩ : ∃ a b, rivR (tab 31 (lokF sc pl sd)) (sc.length : Int) (least + 1) = (a, b) := ⟨_, _, rfl⟩
  obtain ⟨q1, q2⟩ := riv_law sd hlb hk1
  have HQ := Lib.hid (fun h0 => (q2 h0))
  have HTB := Lib.hid (fun k (hk : k < 31) => tab_i64 (lokF sc pl sd) hk)
  have HR1 := Lib.hid hk1
  have HR2 := Lib.hid hk2
  have hk2' := fun h0 h => (q2 h0).2.2.2.2.2.2 _ _ hk2 h
  have HK2 := Lib.hid hk2'
  have Q1 := Lib.hid q1
  rw [← e1] at HR1 HR2 HQ
  rw [← e2] at HQ
  generalize hV : tab 31 (lokF sc pl sd) = V at *
  clear hlb hlr hc r1 r2 e1 e2 d1 d2 hsc hsp s1 s4 s31 hk1 hk2 q1 q2 hV hk2'
  go_enter Tryd.func10, Tryd.ntmps10
  go_wp2_with fail
  refine (K27.out _ S.out.bel).mono ?_
  rintro e w1 ⟨rfl, hb1⟩
  replace S := Lib.hid (S.out.ext hb1)
  clear hb1
  go_wp2_with fail
  refine (KL.out _ S.out.bel).mono ?_
  rintro e v1 ⟨A4, c4, rfl, hO⟩
  obtain ⟨gv, rfl⟩ := hO.rowAddr 0 rfl (by decide)
  have S2 := Lib.hid ((S.out.call hO).cast (qs := [row 3 1 (.slice (some ⟨gv, 0, none⟩) 31 c4) 31 (i64s V)]) rfl)
  clear hO S KL
  go_wp2_with fail
  go_loopg [47] 31 (fun q u47 wr => ∃ x : Nat, x ≤ 31 ∧ u47 = .int .i64 (x : Nat) ∧ Hid (x + q = 31 ∧ Own w wr [row 3 1 (.slice (some ⟨gv, 0, none⟩) 31 c4) 31 (i64s V)]))
  case atStart => exact ⟨0, by omega, rfl, by omega, S2.out⟩
  case round =>
    obtain ⟨x, hx, rfl, hI⟩ := hrel
    have I1 := Lib.hid hI.out.1
    have I2 := Lib.hid hI.out.2
    clear hI S2
    by_cases hlt : x < 31
    · as_aux_lemma =>
      have hxi : (x : Int) < 31 := by omega
      have zx : IntKind.i64.wrap ((x : Int) + 1) = ((x + 1 : Nat) : Int) := by rw [show (x : Int) + 1 = ((x + 1 : Nat) : Int) by omega]; exact IntWalk.i64_in _ (by omega)
      have hin := HIN.out x
      have his := HIS.out x
      have K1 := Lib.hid (fun W h => KV.out x W h hlt)
      have K2 := Lib.hid (fun W h => KI.out x W h)
      have fv0 : ∀ z : OwnOf w [row 3 1 (.slice (some ⟨gv, 0, none⟩) 31 c4) 31 (i64s V)], z.wld.cell? ⟨gv, x, none⟩ = some _ := fun z => z.own.rowAt (g := gv) 0 rfl (HTB.out x hlt)
      have hne : Nonempty (OwnOf w [row 3 1 (.slice (some ⟨gv, 0, none⟩) 31 c4) 31 (i64s V)]) := ⟨⟨_, I2.out⟩⟩
      generalize lokF sc pl sd x = y at *
      generalize valF sc (x : Int) = a at *
      have y1 : ¬ y < 0 := by omega
      have y2 : ¬ 30 < y := by omega
      clear HIN HIS KV KI KR HTB hin HQ HR1 HR2 HK2 Q1 K27
      by_cases hm : (x : Int) ∈ pl
      · obtain rfl : a = y := his.2 hm
        rw [decide_eq_true hm] at K2
        clear his hm
        go_upto_region 12 with (fail)
        refine wp_region_own I2.out (by kernel_rfl) (by kernel_rfl) ?_
        iterate 15 (go_big_quiet_step (fail))
        go_big_quiet_step ((go_at_call 47; exact own_same (K1.out _ (OwnOf.own _).bel)))
        iterate 7 (go_big_quiet_step (fail))
        go_big_quiet_step ((go_at_call 48; exact own_same (K2.out _ (OwnOf.own _).bel)))
        iterate 2 (go_big_quiet_step (fail))
        refine wpQuiet_nil ?_
        rintro w3 ⟨z, hz⟩
        have S3 := Lib.hid (show Own w w3 [row 3 1 (.slice (some ⟨gv, 0, none⟩) 31 c4) 31 (i64s V)] by rw [hz]; exact z.own)
        clear hz z hne fv0 K1 K2
        go_wp2_with fail
        go_roundg (gk - 1)
        case measure => have := I1.out; omega
        case rel => exact ⟨x + 1, by omega, by go_num, by have := I1.out; omega, S3.out⟩
      · have hay : ¬ a = y := fun e => hm (his.1 e)
        have hay2 : (a == y) = false := by simpa using hay
        rw [decide_eq_false hm] at K2
        clear his hm
        go_upto_region 12 with (fail)
        refine wp_region_own I2.out (by kernel_rfl) (by kernel_rfl) ?_
        iterate 15 (go_big_quiet_step (fail))
        go_big_quiet_step ((go_at_call 47; exact own_same (K1.out _ (OwnOf.own _).bel)))
        iterate 7 (go_big_quiet_step (fail))
        go_big_quiet_step ((go_at_call 48; exact own_same (K2.out _ (OwnOf.own _).bel)))
        iterate 2 (go_big_quiet_step (fail))
        refine wpQuiet_nil ?_
        rintro w3 ⟨z, hz⟩
        have S3 := Lib.hid (show Own w w3 [row 3 1 (.slice (some ⟨gv, 0, none⟩) 31 c4) 31 (i64s V)] by rw [hz]; exact z.own)
        clear hz z hne fv0 K1 K2
        go_wp2_with fail
        go_roundg (gk - 1)
        case measure => have := I1.out; omega
        case rel => exact ⟨x + 1, by omega, by go_num, by have := I1.out; omega, S3.out⟩
    obtain rfl : x = 31 := by omega
    have S3 := Lib.hid I2.out
    clear I1 I2 HIN HIS KV KI HTB K27
    go_wp2_with fail
    refine (KR.out least _ c4 _ (S3.out.rd 0 rfl)).mono ?_
    rintro e w4 ⟨rfl, hb4⟩
    have S4 := Lib.hid (S3.out.ext hb4)
    clear hb4 S3
    rw [HR1.out]
    rcases Q1.out with rfl | rfl
    case inr => as_aux_lemma =>
      clear HQ HK2 KR HR1 HR2
      go_wp2_with fail
      go_ret
      exact ⟨rfl, S4.out.bel⟩
    obtain ⟨⟨l0, l31⟩, hn2, k0, kall, kset, kzero, -⟩ := HQ.out rfl
    have hk2 := HK2.out rfl
    have zl : IntKind.i64.wrap (least + 1) = least + 1 := IntWalk.i64_in _ (by omega)
    clear HQ HK2 Q1
    go_wp2_with fail
    refine (KR.out (least + 1) _ c4 _ (S4.out.rd 0 rfl)).mono ?_
    rintro e w5 ⟨rfl, hb5⟩
    have S5 := Lib.hid (S4.out.ext hb5)
    clear hb5 S4 KR
    rw [HR2.out]
    have k0' : (0 : Int) ≤ k1 := k0
    have m1 : f2 = 0 → ¬ k1 < k2 := fun h => by have := hk2 h; omega
    clear hk2 HR1 HR2
    have hnn : n1 = 2 ∨ ¬ n1 = 2 := by omega
    have t1 : (n2 : Int) < least ∨ ¬ (n2 : Int) < least ∧ 1 ≤ k1 := by
      by_cases h : (n2 : Int) < least
      · exact .inl h
      · exact .inr ⟨h, kset (by omega)⟩
    have t2 : 0 < least ∨ ¬ 0 < least ∧ k1 = (if n1 = 2 then 961 else 31) := by
      by_cases h : 0 < least
      · exact .inl h
      · exact .inr ⟨h, kzero (by omega)⟩
    clear kset kzero
    have hf : (f2 = 0 ∧ ¬ k1 < k2) ∨ (f2 == 0) = false := by
      by_cases h : f2 = 0
      · exact .inl ⟨h, m1 h⟩
      · exact .inr (by simpa using h)
    clear m1
    rcases hnn with rfl | hn1
    · rw [if_pos rfl] at kall t2
      rcases hf with ⟨rfl, hf⟩ | hf <;> rcases t1 with t1 | ⟨t1, t1'⟩ <;> rcases t2 with t2 | ⟨t2, rfl⟩
      all_goals
        as_aux_lemma =>
        go_wp2_with fail
        all_goals
          go_ret
          exact ⟨rfl, S5.out.bel⟩
    · have hn1' : ((n1 : Int) == 2) = false := by simp; omega
      rw [if_neg hn1] at kall t2
      rcases hf with ⟨rfl, hf⟩ | hf <;> rcases t1 with t1 | ⟨t1, t1'⟩ <;> rcases t2 with t2 | ⟨t2, rfl⟩
      all_goals
        as_aux_lemma =>
        go_wp2_with fail
        all_goals
          go_ret
          exact ⟨rfl, S5.out.bel⟩
end Go.Proofs.YtnienfgaidccpaaDoor
