/- Queues: whether a queue is valid, as the reference asks it. -/
import Derived.Test.YtalmeokljamhdaaQa
namespace Go.Proofs.Ytalmeokljamhdaa
open Go.RowKit

theorem qw {n : Nat} {lo hi x : Int} {w : World} : Calls Try.prog 51 #[.int .i64 x, .int .i64 lo, .int .i64 hi] (w.drewN n) fun e w' => e = .returned (.bool (inB lo hi x)) ∧ ∃ m, w' = w.drewN m :=
  (within_any lo hi x _).mono fun _ _ ⟨h, h'⟩ => ⟨h, n, h'.symm⟩

set_option maxHeartbeats 2000000 in
theorem validQueue_any (lim next : Int) (A : Option Addr) (l : List Gst) (n c : Nat) (w : World) (hr : Rd w A (flat genc l)) (hn : n = l.length) (hl : n ≤ 1000) :
    Calls Try.prog 52 #[.agg #[.int .i64 lim, .int .i64 next, .slice A n c]] w fun e w' => e = .returned (.bool (chkQ lim next l)) ∧ Below w.heap.size w w' := by
  have HR := Lib.hid hr
  have HN := Lib.hid hn
  clear hr hn
  by_cases h1 : inB 0 8 lim = true
  case neg =>
    have h1' : inB 0 8 lim = false := by simpa using h1
    go_enter Try.func52, Try.ntmps52
    go_wp2_with (go_at_call 51; refine (within_any _ _ _ _).mono ?_; rintro e w' ⟨rfl, rfl⟩)
    go_ret
    exact ⟨by simp [chkQ, h1'], below_alloc _ _⟩
  by_cases h2 : inB 0 1099511627776 next = true
  case neg =>
    have h2' : inB 0 1099511627776 next = false := by simpa using h2
    go_enter Try.func52, Try.ntmps52
    go_wp2_with (first | (go_at_call 51; refine (within_any _ _ _ _).mono ?_; rintro e w' ⟨rfl, rfl⟩) | (go_at_call 61; refine (when_any _ _).mono ?_; rintro e w' ⟨rfl, rfl⟩))
    go_ret
    exact ⟨by simp [chkQ, h2'], below_alloc _ _⟩
  by_cases h3 : n ≤ 20
  case neg =>
    go_enter Try.func52, Try.ntmps52
    go_wp2_with (first | (go_at_call 51; refine (within_any _ _ _ _).mono ?_; rintro e w' ⟨rfl, rfl⟩) | (go_at_call 61; refine (when_any _ _).mono ?_; rintro e w' ⟨rfl, rfl⟩))
    go_ret
    exact ⟨by rw [HN.out] at h3; simp [chkQ, h3], below_alloc _ _⟩
  have h20 : decide (20 < (n : Int)) = false := by simp; omega
  have hnx : 0 ≤ next ∧ next ≤ 1099511627776 := by simpa [inB] using h2
  go_enter Try.func52, Try.ntmps52
  go_wp2_with (first | (go_at_call 51; refine (within_any _ _ _ _).mono ?_; rintro e w' ⟨rfl, rfl⟩) | (go_at_call 61; refine (when_any _ _).mono ?_; rintro e w' ⟨rfl, rfl⟩))
  have q0 := box3_new w (Value.int IntKind.i64 lim) (Value.int IntKind.i64 next) (Value.slice A n c) 24 0
  change _ ∧ _ at q0
  generalize hW0 : (w.alloc (Obj.cells #[Value.int IntKind.i64 lim, Value.int IntKind.i64 next, Value.slice A n c] 24)) = W0 at q0 ⊢
  have qs : w.heap.size < W0.heap.size := by rw [← hW0]; simp
  have qb : Below w.heap.size w W0 := by rw [← hW0]; exact below_alloc _ _
  clear hW0
  simp only [World.drewN] at q0
  go_loopw [3, 4] (fun u3 u4 wr => ∃ (k : Nat) (id sk : Int), k ≤ n ∧ u3 = .int .i64 sk ∧ u4 = .int .i64 k ∧ Below W0.heap.size W0 wr ∧ Hid (qGo next (-1) lim l = qGo next id sk (l.drop k)) ∧ Hid (-1 ≤ id ∧ (k = 0 → id = -1) ∧ ∀ k', k = k' + 1 → ∃ g, l[k']? = some g ∧ g.id = id)) (fun _ u4 _ => n - (intOf u4).toNat)
  case atStart => exact ⟨0, -1, lim, Nat.zero_le _, rfl, rfl, Below.refl _ _, rfl, by omega, fun _ => rfl, fun k' h => by omega⟩
  case round =>
    obtain ⟨k, id, sk, hk, rfl, rfl, hb, hq, hid⟩ := hrel
    obtain ⟨r0, r1, r2⟩ := box3 q0 qs hb
    have rs : w.heap.size < wr.heap.size := by have := hb.size; omega
    have fin : Below w.heap.size w wr := below_step qb hb
    clear q0
    by_cases hlt : k < n
    · have hlt' : k < l.length := by rw [← HN.out]; exact hlt
      obtain ⟨b, off, rfl, hbs, hc0, hc1, hc2⟩ := gst_at HR.out fin hlt'
      have HD := Lib.hid (List.drop_eq_getElem_cons hlt')
      have hnid0 : Hid (∃ g, l[k]? = some g ∧ g.id = l[k].id) := ⟨l[k], List.getElem?_eq_getElem hlt', rfl⟩
      generalize l[k] = g at hc0 hc1 hc2 HD hnid0
      rcases g with ⟨gi, gf, gs⟩
      simp only at hc0 hc1 hc2 hnid0
      cases cw : inB 0 (next - 1) gi
      · have hbad := Lib.hid (chkQ_bad hq.out HD.out (by have := hid.out.1; simp [inB] at cw; simp only; omega))
        go_wp2
        go_quiet ((go_at_call 51; exact qw))
        go_wp2
        go_ret
        exact ⟨by rw [hbad.out]; rfl, below_drewN (fin.alloc (by omega) _) _⟩
      have cw' : 0 ≤ gi ∧ gi ≤ next - 1 := by simpa [inB] using cw
      have hnid : Hid (∃ g, l[k]? = some g ∧ g.id = gi) := hnid0
      by_cases hk0 : 0 < k
      · have hd : decide (0 < (k : Int)) = true := by simp; omega
        have hlt1 : k - 1 < l.length := by omega
        obtain ⟨b', off', hA', _, hp, _, _⟩ := gst_at HR.out fin hlt1
        injection hA' with hA'
        injection hA' with hA1 hA2
        subst hA1; subst hA2
        have hpid : l[k - 1].id = id := by
          obtain ⟨g, hg, hgi⟩ := hid.out.2.2 (k - 1) (by omega)
          rw [List.getElem?_eq_getElem hlt1] at hg
          injection hg with hg
          rw [hg]; exact hgi
        rw [hpid] at hp
        clear hpid
        have hbw : b < wr.heap.size := by omega
        have hidl := hid.out.1
        by_cases c0 : gi ≤ id
        · have c0' : decide (gi ≤ id) = true := by simpa using c0
          have hbad := Lib.hid (chkQ_bad hq.out HD.out (.inl c0))
          go_wp2
          have e1 : IntKind.i64.wrap (next - 1) = next - 1 := IntWalk.i64_in _ (by omega); have e2 : IntKind.i64.wrap ((k : Int) - 1) = (k : Int) - 1 := IntWalk.i64_in _ (by omega); have e3 : 0 ≤ (k : Int) - 1 := (by omega); have e4 : ((k : Int) - 1).toNat = k - 1 := (by omega); have e5 : (k : Int) - 1 < n := (by omega)
          go_quiet ((go_at_call 51; exact qw))
          go_wp2
          go_ret
          exact ⟨by rw [hbad.out]; rfl, below_drewN (fin.alloc (by omega) _) _⟩
        have c0' : decide (gi ≤ id) = false := by simpa using c0
        by_cases c1 : gs < 0
        · have c1' : decide (gs < 0) = true := by simpa using c1
          have hbad := Lib.hid (chkQ_bad hq.out HD.out (.inr (.inr (by simp [inB]; omega))))
          go_wp2
          have e1 : IntKind.i64.wrap (next - 1) = next - 1 := IntWalk.i64_in _ (by omega); have e2 : IntKind.i64.wrap ((k : Int) - 1) = (k : Int) - 1 := IntWalk.i64_in _ (by omega); have e3 : 0 ≤ (k : Int) - 1 := (by omega); have e4 : ((k : Int) - 1).toNat = k - 1 := (by omega); have e5 : (k : Int) - 1 < n := (by omega)
          go_quiet ((go_at_call 51; exact qw))
          go_wp2
          go_ret
          exact ⟨by rw [hbad.out]; rfl, below_drewN (fin.alloc (by omega) _) _⟩
        have c1' : decide (gs < 0) = false := by simpa using c1
        cases gf
        · by_cases c2 : sk < gs
          · have c2' : decide (sk < gs) = true := by simpa using c2
            have hbad := Lib.hid (chkQ_bad hq.out HD.out (.inr (.inr (by simp [inB]; omega))))
            go_wp2
            have e1 : IntKind.i64.wrap (next - 1) = next - 1 := IntWalk.i64_in _ (by omega); have e2 : IntKind.i64.wrap ((k : Int) - 1) = (k : Int) - 1 := IntWalk.i64_in _ (by omega); have e3 : 0 ≤ (k : Int) - 1 := (by omega); have e4 : ((k : Int) - 1).toNat = k - 1 := (by omega); have e5 : (k : Int) - 1 < n := (by omega)
            go_quiet ((go_at_call 51; exact qw))
            go_wp2
            go_ret
            exact ⟨by rw [hbad.out]; rfl, below_drewN (fin.alloc (by omega) _) _⟩
          · have c2' : decide (sk < gs) = false := by simpa using c2
            have hok := qGo_next hq.out HD.out (by simp only; omega) (by simp [inB]; omega) rfl
            go_wp2
            have e1 : IntKind.i64.wrap (next - 1) = next - 1 := IntWalk.i64_in _ (by omega); have e2 : IntKind.i64.wrap ((k : Int) - 1) = (k : Int) - 1 := IntWalk.i64_in _ (by omega); have e3 : 0 ≤ (k : Int) - 1 := (by omega); have e4 : ((k : Int) - 1).toNat = k - 1 := (by omega); have e5 : (k : Int) - 1 < n := (by omega)
            go_quiet ((go_at_call 51; exact qw))
            go_wp2
            go_roundw
            case rel => exact ⟨k + 1, gi, _, by omega, rfl, by go_num, below_drewN (hb.alloc hb.size _) _, hok, by omega, fun h => by omega, fun k' h => by obtain rfl : k' = k := (by omega); exact hnid.out⟩
            case measure => simp [intOf]; omega
        · by_cases c2 : gs = 0
          · subst c2
            have hok := qGo_next hq.out HD.out (by simp only; omega) (by simp [inB]) rfl
            go_wp2
            have e1 : IntKind.i64.wrap (next - 1) = next - 1 := IntWalk.i64_in _ (by omega); have e2 : IntKind.i64.wrap ((k : Int) - 1) = (k : Int) - 1 := IntWalk.i64_in _ (by omega); have e3 : 0 ≤ (k : Int) - 1 := (by omega); have e4 : ((k : Int) - 1).toNat = k - 1 := (by omega); have e5 : (k : Int) - 1 < n := (by omega)
            go_quiet ((go_at_call 51; exact qw))
            go_wp2
            go_roundw
            case rel => exact ⟨k + 1, gi, _, by omega, rfl, by go_num, below_drewN (hb.alloc hb.size _) _, hok, by omega, fun h => by omega, fun k' h => by obtain rfl : k' = k := (by omega); exact hnid.out⟩
            case measure => simp [intOf]; omega
          · have c2' : (gs == 0) = false := by simpa using c2
            have c2'' : (gs != 0) = true := by simpa using c2
            have hbad := Lib.hid (chkQ_bad hq.out HD.out (.inr (.inr (by simp [inB]; omega))))
            go_wp2
            have e1 : IntKind.i64.wrap (next - 1) = next - 1 := IntWalk.i64_in _ (by omega); have e2 : IntKind.i64.wrap ((k : Int) - 1) = (k : Int) - 1 := IntWalk.i64_in _ (by omega); have e3 : 0 ≤ (k : Int) - 1 := (by omega); have e4 : ((k : Int) - 1).toNat = k - 1 := (by omega); have e5 : (k : Int) - 1 < n := (by omega)
            go_quiet ((go_at_call 51; exact qw))
            go_wp2
            go_ret
            exact ⟨by rw [hbad.out]; rfl, below_drewN (fin.alloc (by omega) _) _⟩
      · have hd : decide (0 < (k : Int)) = false := by simp; omega
        have hidl : id = -1 := hid.out.2.1 (by omega)
        subst hidl
        by_cases c1 : gs < 0
        · have c1' : decide (gs < 0) = true := by simpa using c1
          have hbad := Lib.hid (chkQ_bad hq.out HD.out (.inr (.inr (by simp [inB]; omega))))
          go_wp2
          have e1 : IntKind.i64.wrap (next - 1) = next - 1 := IntWalk.i64_in _ (by omega)
          go_quiet ((go_at_call 51; exact qw))
          go_wp2
          go_ret
          exact ⟨by rw [hbad.out]; rfl, below_drewN (fin.alloc (by omega) _) _⟩
        have c1' : decide (gs < 0) = false := by simpa using c1
        cases gf
        · by_cases c2 : sk < gs
          · have c2' : decide (sk < gs) = true := by simpa using c2
            have hbad := Lib.hid (chkQ_bad hq.out HD.out (.inr (.inr (by simp [inB]; omega))))
            go_wp2
            have e1 : IntKind.i64.wrap (next - 1) = next - 1 := IntWalk.i64_in _ (by omega)
            go_quiet ((go_at_call 51; exact qw))
            go_wp2
            go_ret
            exact ⟨by rw [hbad.out]; rfl, below_drewN (fin.alloc (by omega) _) _⟩
          · have c2' : decide (sk < gs) = false := by simpa using c2
            have hok := qGo_next hq.out HD.out (by simp only; omega) (by simp [inB]; omega) rfl
            go_wp2
            have e1 : IntKind.i64.wrap (next - 1) = next - 1 := IntWalk.i64_in _ (by omega)
            go_quiet ((go_at_call 51; exact qw))
            go_wp2
            go_roundw
            case rel => exact ⟨k + 1, gi, _, by omega, rfl, by go_num, below_drewN (hb.alloc hb.size _) _, hok, by omega, fun h => by omega, fun k' h => by obtain rfl : k' = k := (by omega); exact hnid.out⟩
            case measure => simp [intOf]; omega
        · by_cases c2 : gs = 0
          · subst c2
            have hok := qGo_next hq.out HD.out (by simp only; omega) (by simp [inB]) rfl
            go_wp2
            have e1 : IntKind.i64.wrap (next - 1) = next - 1 := IntWalk.i64_in _ (by omega)
            go_quiet ((go_at_call 51; exact qw))
            go_wp2
            go_roundw
            case rel => exact ⟨k + 1, gi, _, by omega, rfl, by go_num, below_drewN (hb.alloc hb.size _) _, hok, by omega, fun h => by omega, fun k' h => by obtain rfl : k' = k := (by omega); exact hnid.out⟩
            case measure => simp [intOf]; omega
          · have c2' : (gs == 0) = false := by simpa using c2
            have c2'' : (gs != 0) = true := by simpa using c2
            have hbad := Lib.hid (chkQ_bad hq.out HD.out (.inr (.inr (by simp [inB]; omega))))
            go_wp2
            have e1 : IntKind.i64.wrap (next - 1) = next - 1 := IntWalk.i64_in _ (by omega)
            go_quiet ((go_at_call 51; exact qw))
            go_wp2
            go_ret
            exact ⟨by rw [hbad.out]; rfl, below_drewN (fin.alloc (by omega) _) _⟩
    · go_wp2
      go_ret
      exact ⟨by rw [chkQ_ok h1 h2 (by rw [← HN.out]; exact h3) hq.out (List.drop_eq_nil_of_le (by rw [← HN.out]; omega))]; rfl, fin⟩
end Go.Proofs.Ytalmeokljamhdaa
