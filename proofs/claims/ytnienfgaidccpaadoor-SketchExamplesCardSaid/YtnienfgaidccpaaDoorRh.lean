/- Words: the random numbers of a sort, and what breaks patterns. No condition. -/
import Derived.Test.YtnienfgaidccpaaDoorRg
import Derived.Test.YtnienfgaidccpaaDoorRl
import Derived.Sort.LotD5
import Derived.Laws.Bits64
import Derived.Laws.Bits64b
namespace Go.Proofs.YtnienfgaidccpaaDoor
open Go.RowKit Go.Shelf
attribute [local go_sem] Oper.semAt_some

theorem bitLen_is (x : Nat) (h : x < 2 ^ 64) : Lib.bitLen x = Sort.bitsLen x := by
  induction x using Nat.strongRecOn with
  | _ x ih =>
    by_cases h0 : x = 0
    · subst h0; rfl
    · rw [Lib.bitLen_half x h0 h, ih (x / 2) (by omega) (by omega)]
      unfold Sort.bitsLen
      rw [if_neg h0, Nat.log2_def x]
      by_cases h2 : 2 ≤ x
      · rw [if_pos h2, if_neg (by omega)]; omega
      · obtain rfl : x = 1 := by omega
        simp
theorem wrap_pow2 (k : Nat) (hk : k ≤ 62) : IntKind.u64.wrap ((2 : Int) ^ k) = ((1 <<< k : Nat) : Int) := by
  have h : (2 : Nat) ^ k ≤ 2 ^ 62 := Nat.pow_le_pow_right (by decide) hk
  rw [IntKind.wrap_u64, Nat.one_shiftLeft, show ((2 : Int) ^ k) = ((2 ^ k : Nat) : Int) by push_cast; rfl]
  generalize (2 : Nat) ^ k = p at h
  omega
theorem nextPow_any (n : Nat) (hn : n ≤ 1000000) (M : Nat) (hM : M = 1 <<< Sort.bitsLen n) (w : World) :
    Calls Tryd.prog 118 #[.int .i64 (n : Nat)] w fun e w' => e = .returned (.int .u64 (M : Nat)) ∧ w' = w := by
  have hLen : ∀ w, Calls Tryd.prog 99 #[.int .u64 (n : Int)] w fun e w' => e = .returned (.int .i64 (Sort.bitsLen n : Nat)) ∧ w' = w := fun w => by
    have h := len_any (n : Int) w (by omega) (by omega)
    rwa [Int.toNat_natCast, bitLen_is _ (by omega)] at h
  have hk : Sort.bitsLen n ≤ 62 := (Sort.bitsLen_le_iff n 62).2 (by omega)
  have hp := wrap_pow2 (Sort.bitsLen n) hk
  rw [← hM] at hp
  clear hM
  go_enter Tryd.func118, Tryd.ntmps118
  go_wp2_with (first | (go_at_call 99; refine (hLen _).mono ?_; rintro e w' ⟨rfl, rfl⟩))
  go_ret
  exact ⟨rfl, rfl⟩
set_option maxRecDepth 100000 in
set_option maxHeartbeats 8000000 in
theorem next_any (w0 : World) (q : Piece) (ps : List Piece) (W : World) (B X Z : Nat) (hX : X < 18446744073709551616) (hZ : Z = Sort.xorNextN X) (hO : Own w0 W (q :: box B 151 [.int .u64 ((X : Nat) : Int)] :: ps)) :
    Calls Tryd.prog 119 #[.pointer (some ⟨B, 0, none⟩)] W fun e w' => e = .returned (.int .u64 (Z : Nat)) ∧ Own w0 w' (q :: box B 151 [.int .u64 ((Z : Nat) : Int)] :: ps) := by
  obtain ⟨A1, hA⟩ : ∃ A1 : Nat, A1 = X ^^^ (X * 8192 % 18446744073709551616) := ⟨_, rfl⟩
  obtain ⟨A2, hB⟩ : ∃ A2 : Nat, A2 = A1 ^^^ (A1 / 128) := ⟨_, rfl⟩
  obtain ⟨A3, hC⟩ : ∃ A3 : Nat, A3 = A2 ^^^ (A2 * 131072 % 18446744073709551616) := ⟨_, rfl⟩
  have lA : A1 < 18446744073709551616 := by rw [hA]; exact Nat.xor_lt_two_pow (n := 64) (by omega) (by omega)
  have lB : A2 < 18446744073709551616 := by rw [hB]; exact Nat.xor_lt_two_pow (n := 64) (by omega) (by omega)
  have e1 : bits .xor .u64 (X : Int) (IntKind.u64.wrap ((X : Int) * 8192)) = (A1 : Int) := by
    rw [IntKind.wrap_u64, show ((X : Int) * 8192 % 18446744073709551616) = ((X * 8192 % 18446744073709551616 : Nat) : Int) by omega, bits_xor_u64_nat _ _ hX (by omega), hA]
  have e2 : bits .xor .u64 (A1 : Int) ((A1 : Int) / 128) = (A2 : Int) := by
    rw [show ((A1 : Int) / 128) = ((A1 / 128 : Nat) : Int) by omega, bits_xor_u64_nat _ _ lA (by omega), hB]
  have e3 : bits .xor .u64 (A2 : Int) (IntKind.u64.wrap ((A2 : Int) * 131072)) = (A3 : Int) := by
    rw [IntKind.wrap_u64, show ((A2 : Int) * 131072 % 18446744073709551616) = ((A2 * 131072 % 18446744073709551616 : Nat) : Int) by omega, bits_xor_u64_nat _ _ lB (by omega), hC]
  obtain rfl : Z = A3 := by rw [hZ]; unfold Sort.xorNextN; simp only []; rw [← hA, ← hB, ← hC]
  have S0 := Lib.hid hO
  clear hA hB hC hZ hO
  go_enter Tryd.func119, Tryd.ntmps119
  have t0 := (S0.out.bx 1 rfl).1 0 _ rfl
  have tf := (S0.out.bx 1 rfl).2.1
  have tl := (S0.out.bx 1 rfl).2.2
  go_upto_region 1 with (fail)
  go_region
  all_goals
    have S1 := Lib.hid (show Own w0 _ (q :: box B 151 [.int .u64 ((A1 : Nat) : Int)] :: ps) from (S0.out.set 1 rfl 0 (.int .u64 (A1 : Nat))).ext (Below.refl _ _).drew)
    clear t0 tf tl
    generalize ((W.setCell ⟨B, 0, none⟩ (.int .u64 (A1 : Nat))).drew) = W1 at *
    have t0 := (S1.out.bx 1 rfl).1 0 _ rfl
    have tf := (S1.out.bx 1 rfl).2.1
    have tl := (S1.out.bx 1 rfl).2.2
    go_upto_region 2 with (fail)
    go_region
  all_goals
    have S2 := Lib.hid (show Own w0 _ (q :: box B 151 [.int .u64 ((A2 : Nat) : Int)] :: ps) from (S1.out.set 1 rfl 0 (.int .u64 (A2 : Nat))).ext (Below.refl _ _).drew)
    clear t0 tf tl
    generalize ((W1.setCell ⟨B, 0, none⟩ (.int .u64 (A2 : Nat))).drew) = W2 at *
    have t0 := (S2.out.bx 1 rfl).1 0 _ rfl
    have tf := (S2.out.bx 1 rfl).2.1
    have tl := (S2.out.bx 1 rfl).2.2
    go_upto_region 3 with (fail)
    go_region
  all_goals
    have S3 := Lib.hid (show Own w0 _ (q :: box B 151 [.int .u64 ((Z : Nat) : Int)] :: ps) from (S2.out.set 1 rfl 0 (.int .u64 (Z : Nat))).ext (Below.refl _ _).drew)
    clear t0 tf tl
    generalize ((W2.setCell ⟨B, 0, none⟩ (.int .u64 (Z : Nat))).drew) = W3 at *
    have t0 := (S3.out.bx 1 rfl).1 0 _ rfl
    have tl := (S3.out.bx 1 rfl).2.2
    go_wp2_with fail
    go_ret
    exact ⟨rfl, S3.out⟩
def brk (a L M : Nat) : Nat → Nat → UInt64 × Array Nat → Array Nat
  | 0, _, st => st.2
  | k + 1, i, st => brk a L M k (i + 1) (Sort.breakStep a L M st i)
theorem brk_eq (d : Array Nat) (a b L : Nat) (hL : L = b - a) (h : 8 ≤ L) : Sort.breakPatterns d a b = brk a L (1 <<< Sort.bitsLen L) 3 (a + L / 4 * 2 - 1) (UInt64.ofNat L, d) := by
  subst hL
  unfold Sort.breakPatterns
  simp only []
  rw [if_pos (show b - a ≥ 8 from h)]
  rfl
theorem brk_step {a L M k x o y p : Nat} {r : UInt64} {d dn : Array Nat} (ho : o = (Sort.xorNext r).toNat &&& (M - 1)) (hy : y = if L ≤ o then o - L else o) (hp : p = a + y) (hd : Sort.swp d x p = dn) :
    brk a L M (k + 1) x (r, d) = brk a L M k (x + 1) (Sort.xorNext r, dn) := by
  rw [brk]
  unfold Sort.breakStep
  simp only [← ho, ge_iff_le, ← hy, ← hp, hd]
set_option maxRecDepth 100000 in
set_option maxHeartbeats 8000000 in
theorem break_any (w0 : World) (ps : List Piece) (g n c : Nat) (d : Array Nat) (W : World) (hO : Own w0 W (dat g n c d :: ps)) (a b : Nat) (hd : d.size = n) (hab : a + 13 ≤ b) (hbn : b ≤ n) (hn : n ≤ 1000000) :
    Calls Tryd.prog 107 #[.slice (some ⟨g, 0, none⟩) n c, .int .i64 (a : Nat), .int .i64 (b : Nat)] W fun e w' => e = .returned (.tuple #[]) ∧ Own w0 w' (dat g n c (Sort.breakPatterns d a b) :: ps) := by
  obtain ⟨L, hL⟩ : ∃ L, L = b - a := ⟨_, rfl⟩
  obtain ⟨M, hM⟩ : ∃ M, M = 1 <<< Sort.bitsLen L := ⟨_, rfl⟩
  have hM1 : 1 ≤ M := by rw [hM, Nat.one_shiftLeft]; exact Nat.two_pow_pos _
  have hM2 : M ≤ 2 * L := by rw [hM, Nat.one_shiftLeft]; exact Sort.two_pow_bitsLen_le (by omega)
  have KP := Lib.hid (fun w => nextPow_any L (by omega) M hM w)
  obtain ⟨Q, hQ⟩ : ∃ Q, Q = L / 4 := ⟨_, rfl⟩
  obtain ⟨Q2, hQ2⟩ : ∃ Q2, Q2 = Q * 2 := ⟨_, rfl⟩
  obtain ⟨I, hI⟩ : ∃ I, I = a + Q2 := ⟨_, rfl⟩
  obtain ⟨Im, hIm⟩ : ∃ Im, Im = I - 1 := ⟨_, rfl⟩
  obtain ⟨Ip, hIp⟩ : ∃ Ip, Ip = I + 1 := ⟨_, rfl⟩
  obtain ⟨Mm, hMm⟩ : ∃ Mm, Mm = M - 1 := ⟨_, rfl⟩
  have zL : (b : Int) - (a : Int) = (L : Int) := by omega
  have zLw : IntKind.i64.wrap (L : Int) = (L : Int) := IntWalk.i64_in _ (by omega)
  have zLu : IntKind.u64.wrap (L : Int) = (L : Int) := IntWalk.u64_in _ (by omega)
  have zQ : (L : Int).tdiv 4 = (Q : Int) := by rw [Int.tdiv_eq_ediv_of_nonneg (by omega)]; omega
  have zQw : IntKind.i64.wrap (Q : Int) = (Q : Int) := IntWalk.i64_in _ (by omega)
  have z2 : (Q : Int) * 2 = (Q2 : Int) := by omega
  have z2w : IntKind.i64.wrap (Q2 : Int) = (Q2 : Int) := IntWalk.i64_in _ (by omega)
  have zI : (a : Int) + (Q2 : Int) = (I : Int) := by omega
  have zIw : IntKind.i64.wrap (I : Int) = (I : Int) := IntWalk.i64_in _ (by omega)
  have zIm : (I : Int) - 1 = (Im : Int) := by omega
  have zImw : IntKind.i64.wrap (Im : Int) = (Im : Int) := IntWalk.i64_in _ (by omega)
  have zIp : (I : Int) + 1 = (Ip : Int) := by omega
  have zIpw : IntKind.i64.wrap (Ip : Int) = (Ip : Int) := IntWalk.i64_in _ (by omega)
  have zM : (M : Int) - 1 = (Mm : Int) := by omega
  have zMw : IntKind.u64.wrap (Mm : Int) = (Mm : Int) := IntWalk.u64_in _ (by omega)
  have hL8 : (8 : Int) ≤ (L : Int) := by omega
  obtain ⟨R, hR⟩ : ∃ R, R = Sort.breakPatterns d a b := ⟨_, rfl⟩
  rw [← hR]
  have H0 := Lib.hid (show R = brk a L M 3 Im (UInt64.ofNat L, d) by rw [hR, brk_eq d a b L hL (by omega), hM, hIm, hI, hQ2, hQ])
  have hLn : (UInt64.ofNat L).toNat = L := by simp; omega
  have S00 := Lib.hid (show Own w0 (W.alloc (.cells #[.int .u64 ((L : Nat) : Int)] 151)) (dat g n c d :: box W.heap.size 151 [.int .u64 (((UInt64.ofNat L).toNat : Nat) : Int)] :: ps) by
    rw [hLn]; exact (hO.new' 151 #[.int .u64 ((L : Nat) : Int)] rfl).perm (List.Perm.swap _ _ _))
  have hIb : 1 ≤ Im ∧ Im + 3 ≤ b ∧ a ≤ Im ∧ Ip = Im + 2 := by omega
  have HD := Lib.hid hd
  have HMm := Lib.hid hMm
  have hMb : Mm < 2 * L ∧ L ≤ 1000000 ∧ a + L = b := by omega
  obtain ⟨B, hB⟩ : ∃ B, B = W.heap.size := ⟨_, rfl⟩
  rw [← hB] at S00
  have HB := Lib.hid hB
  clear hO hd hL hM hM1 hM2 hQ hQ2 hI hIm hIp hMm hR hLn
  go_enter Tryd.func107, Tryd.ntmps107
  go_wp2_with (go_at_call 118; refine (KP.out _).mono ?_; rintro e w' ⟨rfl, rfl⟩)
  rw [← hB]
  clear hB
  go_loopg [9] 3 (fun q u9 wr => ∃ x : Nat, (Im ≤ x ∧ x ≤ Im + 3) ∧ u9 = .int .i64 ((x : Nat) : Int) ∧ Hid (∃ r d k, R = brk a L M k x (r, d) ∧ k + x = Im + 3 ∧ d.size = n ∧ q = k ∧ Own w0 wr (dat g n c d :: box B 151 [.int .u64 ((r.toNat : Nat) : Int)] :: ps)))
  case atStart => exact ⟨Im, by omega, rfl, UInt64.ofNat L, d, 3, H0.out, by omega, HD.out, rfl, S00.out⟩
  case round =>
    obtain ⟨x, hx, rfl, hI⟩ := hrel
    obtain ⟨r, d, k, q1, q2, q3, q4, q5⟩ := hI.out
    by_cases hlt : x ≤ Ip
    case neg => as_aux_lemma =>
      have hlt2 : ¬ (x : Int) ≤ (Ip : Int) := by omega
      obtain rfl : k = 0 := by omega
      have HE := Lib.hid (show R = d from q1)
      have S9 := Lib.hid (show Own w0 wr (dat g n c d :: ps) from (q5.perm (List.Perm.swap _ _ _)).tail)
      clear hI q1 q2 q3 q4 q5 S00 H0
      go_wp2_with fail
      go_end0
      exact ⟨rfl, by rw [HE.out]; exact S9.out⟩
    have hlt2 : (x : Int) ≤ (Ip : Int) := by omega
    obtain ⟨k, rfl⟩ : ∃ m, k = m + 1 := ⟨k - 1, by omega⟩
    have JR := Lib.hid q1
    have JK := Lib.hid q2
    have J1 := Lib.hid q3
    have JQ := Lib.hid q4
    have J2 := Lib.hid q5
    clear hI q1 q2 q3 q4 q5 S00 H0
    have zx : IntKind.i64.wrap ((x : Int) + 1) = ((x + 1 : Nat) : Int) := by rw [show (x : Int) + 1 = ((x + 1 : Nat) : Int) by omega]; exact IntWalk.i64_in _ (by omega)
    obtain ⟨Z, hZ⟩ : ∃ Z, Z = (Sort.xorNext r).toNat := ⟨_, rfl⟩
    have lZ : Z < 18446744073709551616 := by rw [hZ]; exact UInt64.toNat_lt _
    have KN := Lib.hid (fun W hO => next_any w0 (dat g n c d) ps W B r.toNat Z (UInt64.toNat_lt _) (by rw [hZ, Sort.xorNext_toNat]) hO)
    obtain ⟨o, ho⟩ : ∃ o, o = Z &&& Mm := ⟨_, rfl⟩
    have lo : o ≤ Mm := by rw [ho]; exact Nat.and_le_right
    have eA : bits .and .u64 (Z : Int) (Mm : Int) = (o : Int) := by rw [bits_and_u64_nat _ _ lZ (by omega), ho]
    have HO := Lib.hid (show o = (Sort.xorNext r).toNat &&& (M - 1) by rw [ho, hZ, HMm.out])
    have zo : IntKind.i64.wrap (o : Int) = (o : Int) := IntWalk.i64_in _ (by omega)
    have HX := Lib.hid hZ
    clear hZ ho
    by_cases hLo : L ≤ o
    · as_aux_lemma =>
      have hLo2 : (L : Int) ≤ (o : Int) := by omega
      obtain ⟨y, hy⟩ : ∃ y, y = o - L := ⟨_, rfl⟩
      have zy : (o : Int) - (L : Int) = (y : Int) := by omega
      have zyw : IntKind.i64.wrap (y : Int) = (y : Int) := IntWalk.i64_in _ (by omega)
      have hyb : y < L := by omega
      have HY := Lib.hid (show y = if L ≤ o then o - L else o by rw [if_pos hLo, hy])
      clear hy
      go_upto_region 10 with (go_at_call 119; refine (KN.out _ J2.out).mono ?_; rintro e w1 ⟨rfl, q⟩; have S5 := Lib.hid q; clear q J2)
      obtain ⟨ps2, hps⟩ : ∃ ps2, ps2 = box B 151 [.int .u64 ((Z : Nat) : Int)] :: ps := ⟨_, rfl⟩
      rw [← hps] at S5
      obtain ⟨p, hp⟩ : ∃ p, p = a + y := ⟨_, rfl⟩
      have zp : (a : Int) + (y : Int) = (p : Int) := by omega
      have zpw : IntKind.i64.wrap (p : Int) = (p : Int) := IntWalk.i64_in _ (by omega)
      have hpn : (p : Int) < (n : Int) := by omega
      have hxn : (x : Int) < (n : Int) := by omega
      have hsz : d.size = n := J1.out
      obtain ⟨vi, vj, d1, d2, dn, sq1, sq2, sq3, sq4, sq5, sq6, sq7⟩ := swp_vars d (x) (p)
      have SI := Lib.hid (at_arr (d := d) (i := x) (by omega) sq1)
      have SJ := Lib.hid (at_arr (d := d) (i := p) (by omega) sq2)
      have SBI := Lib.hid (show x < d.size by omega)
      have SBJ := Lib.hid (show p < d.size by omega)
      have SQ3 := Lib.hid sq3
      have SQ4 := Lib.hid sq4
      have SQ5 := Lib.hid sq5
      have SQ6 := Lib.hid sq6
      have SQ7 := Lib.hid sq7
      have SZ := Lib.hid (show dn.size = d.size by rw [← sq7]; exact swp_size _ _ _)
      clear sq1 sq2 sq3 sq4 sq5 sq6 sq7
      have HE := Lib.hid (show R = brk a L M k (x + 1) (Sort.xorNext r, dn) by rw [JR.out]; exact brk_step HO.out HY.out hp SQ7.out)
      clear hsz hp
      refine wp_region_state 65 [(47, (.slice (some ⟨g, 0, none⟩) n c)), (48, (.int .i64 ((x : Nat) : Int))), (49, (.slice (some ⟨g, 0, none⟩) n c)), (50, (.int .i64 ((a : Nat) : Int))), (51, (.int .i64 ((y : Nat) : Int))), (52, (.int .i64 ((p : Nat) : Int))), (53, (.slice (some ⟨g, 0, none⟩) n c)), (54, (.int .i64 ((a : Nat) : Int))), (55, (.int .i64 ((y : Nat) : Int))), (56, (.int .i64 ((p : Nat) : Int))), (57, (.pointer (some ⟨g, p, none⟩))), (58, (.int .u16 (vj : Nat))), (59, (.slice (some ⟨g, 0, none⟩) n c)), (60, (.int .i64 ((x : Nat) : Int))), (61, (.pointer (some ⟨g, x, none⟩))), (62, (.int .u16 (vi : Nat))), (63, (.pointer (some ⟨g, x, none⟩))), (64, (.pointer (some ⟨g, p, none⟩)))] (fun L vs w' => Own w0 w' (dat g n c (cond (L 17) (cond (L 19) dn d1) (cond (L 19) d2 d)) :: ps2)) (by kernel_rfl) (by kernel_rfl) [47, 48, 49, 50, 51, 52, 53, 54, 55, 56, 57, 58, 59, 60, 61, 62, 63, 64] (by kernel_rfl) rfl (by kernel_rfl) 20 rfl ?_ ?_ ?_
      · exact fun L hL => (S5.out.ext (Below.refl _ _).drew).cast (by simp [hL 17 (by decide), hL 19 (by decide)])
      · refine ⟨StepS.of [] (by kernel_rfl) ?_, ?_⟩
        · intro L vs wq hL hA hC hJ
          unfold forAll
          exact StepV.val 47 (by kernel_rfl) (by kernel_rfl) rfl (by simp) rfl rfl hJ
        refine ⟨StepS.of [] (by kernel_rfl) ?_, ?_⟩
        · intro L vs wq hL hA hC hJ
          unfold forAll
          exact StepV.val 48 (by kernel_rfl) (by kernel_rfl) rfl (by simp) rfl rfl hJ
        refine ⟨StepS.of [] (by kernel_rfl) ?_, ?_⟩
        · intro L vs wq hL hA hC hJ
          unfold forAll
          exact StepV.val 49 (by kernel_rfl) (by kernel_rfl) rfl (by simp) rfl rfl hJ
        refine ⟨StepS.of [] (by kernel_rfl) ?_, ?_⟩
        · intro L vs wq hL hA hC hJ
          unfold forAll
          exact StepV.val 50 (by kernel_rfl) (by kernel_rfl) rfl (by simp) rfl rfl hJ
        refine ⟨StepS.of [] (by kernel_rfl) ?_, ?_⟩
        · intro L vs wq hL hA hC hJ
          unfold forAll
          exact StepV.val 51 (by kernel_rfl) (by kernel_rfl) rfl (by simp) rfl rfl hJ
        refine ⟨StepS.of [50, 51] (by kernel_rfl) ?_, ?_⟩
        · intro L vs wq hL hA hC hJ h50 h51
          rw [(show vs 50 = (.int .i64 ((a : Nat) : Int)) from h50), (show vs 51 = (.int .i64 ((y : Nat) : Int)) from h51)]
          unfold forAll
          exact StepV.val 52 (by kernel_rfl) (by go_simp) rfl (by simp [Act.put]) rfl rfl hJ
        refine ⟨StepS.of [] (by kernel_rfl) ?_, ?_⟩
        · intro L vs wq hL hA hC hJ
          unfold forAll
          exact StepV.val 53 (by kernel_rfl) (by kernel_rfl) rfl (by simp) rfl rfl hJ
        refine ⟨StepS.of [] (by kernel_rfl) ?_, ?_⟩
        · intro L vs wq hL hA hC hJ
          unfold forAll
          exact StepV.val 54 (by kernel_rfl) (by kernel_rfl) rfl (by simp) rfl rfl hJ
        refine ⟨StepS.of [] (by kernel_rfl) ?_, ?_⟩
        · intro L vs wq hL hA hC hJ
          unfold forAll
          exact StepV.val 55 (by kernel_rfl) (by kernel_rfl) rfl (by simp) rfl rfl hJ
        refine ⟨StepS.of [54, 55] (by kernel_rfl) ?_, ?_⟩
        · intro L vs wq hL hA hC hJ h54 h55
          rw [(show vs 54 = (.int .i64 ((a : Nat) : Int)) from h54), (show vs 55 = (.int .i64 ((y : Nat) : Int)) from h55)]
          unfold forAll
          exact StepV.val 56 (by kernel_rfl) (by go_simp) rfl (by simp [Act.put]) rfl rfl hJ
        refine ⟨StepS.of [53, 56] (by kernel_rfl) ?_, ?_⟩
        · intro L vs wq hL hA hC hJ h53 h56
          rw [(show vs 53 = (.slice (some ⟨g, 0, none⟩) n c) from h53), (show vs 56 = (.int .i64 ((p : Nat) : Int)) from h56)]
          unfold forAll
          exact StepV.val 57 (by kernel_rfl) (by go_simp) rfl (by simp [Act.put]) rfl rfl hJ
        refine ⟨StepS.of [57] (by kernel_rfl) ?_, ?_⟩
        · intro L vs wq hL hA hC hJ h57
          rw [(show vs 57 = (.pointer (some ⟨g, p, none⟩)) from h57)]
          unfold forAll
          have q1 := hC.no (j := 17) (i := 11) (by kernel_rfl) hL
          have q2 := hC.no (j := 19) (i := 11) (by kernel_rfl) hL
          have K := Own.cast (qs := dat g n c d :: ps2) hJ (by simp [q1, q2])
          have t0 := K.rowAt 0 rfl (u := .int .u16 (vj : Nat)) (j := p) SJ.out
          have tl := (K.rowLt 0 rfl).1
          exact StepV.val 58 (by kernel_rfl) (by go_simp) rfl (by simp [Act.put]) rfl rfl hJ
        refine ⟨StepS.of [] (by kernel_rfl) ?_, ?_⟩
        · intro L vs wq hL hA hC hJ
          unfold forAll
          exact StepV.val 59 (by kernel_rfl) (by kernel_rfl) rfl (by simp) rfl rfl hJ
        refine ⟨StepS.of [] (by kernel_rfl) ?_, ?_⟩
        · intro L vs wq hL hA hC hJ
          unfold forAll
          exact StepV.val 60 (by kernel_rfl) (by kernel_rfl) rfl (by simp) rfl rfl hJ
        refine ⟨StepS.of [59, 60] (by kernel_rfl) ?_, ?_⟩
        · intro L vs wq hL hA hC hJ h59 h60
          rw [(show vs 59 = (.slice (some ⟨g, 0, none⟩) n c) from h59), (show vs 60 = (.int .i64 ((x : Nat) : Int)) from h60)]
          unfold forAll
          exact StepV.val 61 (by kernel_rfl) (by go_simp) rfl (by simp [Act.put]) rfl rfl hJ
        refine ⟨StepS.of [61] (by kernel_rfl) ?_, ?_⟩
        · intro L vs wq hL hA hC hJ h61
          rw [(show vs 61 = (.pointer (some ⟨g, x, none⟩)) from h61)]
          unfold forAll
          have q1 := hC.no (j := 17) (i := 15) (by kernel_rfl) hL
          have q2 := hC.no (j := 19) (i := 15) (by kernel_rfl) hL
          have K := Own.cast (qs := dat g n c d :: ps2) hJ (by simp [q1, q2])
          have t0 := K.rowAt 0 rfl (u := .int .u16 (vi : Nat)) (j := x) SI.out
          have tl := (K.rowLt 0 rfl).1
          exact StepV.val 62 (by kernel_rfl) (by go_simp) rfl (by simp [Act.put]) rfl rfl hJ
        refine ⟨StepS.of [47, 48] (by kernel_rfl) ?_, ?_⟩
        · intro L vs wq hL hA hC hJ h47 h48
          rw [(show vs 47 = (.slice (some ⟨g, 0, none⟩) n c) from h47), (show vs 48 = (.int .i64 ((x : Nat) : Int)) from h48)]
          unfold forAll
          exact StepV.val 63 (by kernel_rfl) (by go_simp) rfl (by simp [Act.put]) rfl rfl hJ
        refine ⟨StepS.of [63, 58] (by kernel_rfl) ?_, ?_⟩
        · intro L vs wq hL hA hC hJ h63 h58
          rw [(show vs 63 = (.pointer (some ⟨g, x, none⟩)) from h63), (show vs 58 = (.int .u16 (vj : Nat)) from h58)]
          unfold forAll
          cases q : L 19
          · have K := Own.cast (qs := dat g n c d :: ps2) hJ (by simp [hL, q])
            have tl := (K.rowLt 0 rfl).1; have tf := (K.rowLt 0 rfl).2
            have t0 := K.rowAt 0 rfl (j := x) SI.out
            exact StepV.skip (by kernel_rfl) (by go_simp) rfl rfl ((K.setD (x) vj).cast (by simp [upd, q, SQ3.out]))
          · have K := Own.cast (qs := dat g n c d2 :: ps2) hJ (by simp [hL, q])
            have tl := (K.rowLt 0 rfl).1; have tf := (K.rowLt 0 rfl).2
            obtain ⟨u9, t0⟩ := K.someD (i := x) (by rw [← SQ4.out, Array.size_setIfInBounds]; exact SBI.out)
            exact StepV.skip (by kernel_rfl) (by go_simp) rfl rfl ((K.setD (x) vj).cast (by simp [upd, q, SQ6.out]))
        refine ⟨StepS.of [49, 52] (by kernel_rfl) ?_, ?_⟩
        · intro L vs wq hL hA hC hJ h49 h52
          rw [(show vs 49 = (.slice (some ⟨g, 0, none⟩) n c) from h49), (show vs 52 = (.int .i64 ((p : Nat) : Int)) from h52)]
          unfold forAll
          exact StepV.val 64 (by kernel_rfl) (by go_simp) rfl (by simp [Act.put]) rfl rfl hJ
        refine ⟨StepS.of [64, 62] (by kernel_rfl) ?_, ?_⟩
        · intro L vs wq hL hA hC hJ h64 h62
          rw [(show vs 64 = (.pointer (some ⟨g, p, none⟩)) from h64), (show vs 62 = (.int .u16 (vi : Nat)) from h62)]
          unfold forAll
          cases q : L 17
          · have K := Own.cast (qs := dat g n c d :: ps2) hJ (by simp [hL, q])
            have tl := (K.rowLt 0 rfl).1; have tf := (K.rowLt 0 rfl).2
            have t0 := K.rowAt 0 rfl (j := p) SJ.out
            exact StepV.skip (by kernel_rfl) (by go_simp) rfl rfl ((K.setD (p) vi).cast (by simp [upd, q, SQ4.out]))
          · have K := Own.cast (qs := dat g n c d1 :: ps2) hJ (by simp [hL, q])
            have tl := (K.rowLt 0 rfl).1; have tf := (K.rowLt 0 rfl).2
            obtain ⟨u9, t0⟩ := K.someD (i := p) (by rw [← SQ3.out, Array.size_setIfInBounds]; exact SBJ.out)
            exact StepV.skip (by kernel_rfl) (by go_simp) rfl rfl ((K.setD (p) vi).cast (by simp [upd, q, SQ5.out]))
        exact trivial
      · intro vs wS6 hJ h47 h48 h49 h50 h51 h52 h53 h54 h55 h56 h57 h58 h59 h60 h61 h62 h63 h64
        rw [(show vs 47 = (.slice (some ⟨g, 0, none⟩) n c) from h47), (show vs 48 = (.int .i64 ((x : Nat) : Int)) from h48), (show vs 49 = (.slice (some ⟨g, 0, none⟩) n c) from h49), (show vs 50 = (.int .i64 ((a : Nat) : Int)) from h50), (show vs 51 = (.int .i64 ((y : Nat) : Int)) from h51), (show vs 52 = (.int .i64 ((p : Nat) : Int)) from h52), (show vs 53 = (.slice (some ⟨g, 0, none⟩) n c) from h53), (show vs 54 = (.int .i64 ((a : Nat) : Int)) from h54), (show vs 55 = (.int .i64 ((y : Nat) : Int)) from h55), (show vs 56 = (.int .i64 ((p : Nat) : Int)) from h56), (show vs 57 = (.pointer (some ⟨g, p, none⟩)) from h57), (show vs 58 = (.int .u16 (vj : Nat)) from h58), (show vs 59 = (.slice (some ⟨g, 0, none⟩) n c) from h59), (show vs 60 = (.int .i64 ((x : Nat) : Int)) from h60), (show vs 61 = (.pointer (some ⟨g, x, none⟩)) from h61), (show vs 62 = (.int .u16 (vi : Nat)) from h62), (show vs 63 = (.pointer (some ⟨g, x, none⟩)) from h63), (show vs 64 = (.pointer (some ⟨g, p, none⟩)) from h64)]
        clear h47 h48 h49 h50 h51 h52 h53 h54 h55 h56 h57 h58 h59 h60 h61 h62 h63 h64
        have S6 := Lib.hid (Own.cast (qs := dat g n c dn :: ps2) hJ rfl)
        clear hJ
        unfold forAll
        simp only [Act.put, List.setIfInBounds_toArray, List.set_cons_zero, List.set_cons_succ]
        go_wp2_with fail
        go_roundg k
        case measure => have := JQ.out; omega
        case rel => exact ⟨x + 1, by omega, by go_num, Sort.xorNext r, dn, k, HE.out, by have := JK.out; omega, SZ.out.trans J1.out, rfl, by rw [← HX.out]; subst hps; exact S6.out⟩
    · as_aux_lemma =>
      have hLo2 : ¬ (L : Int) ≤ (o : Int) := by omega
      obtain ⟨y, hy⟩ : ∃ y, y = o := ⟨_, rfl⟩
      have hyb : y < L := by omega
      have HY := Lib.hid (show y = if L ≤ o then o - L else o by rw [if_neg hLo, hy])
      subst hy
      go_upto_region 10 with (go_at_call 119; refine (KN.out _ J2.out).mono ?_; rintro e w1 ⟨rfl, q⟩; have S5 := Lib.hid q; clear q J2)
      obtain ⟨ps2, hps⟩ : ∃ ps2, ps2 = box B 151 [.int .u64 ((Z : Nat) : Int)] :: ps := ⟨_, rfl⟩
      rw [← hps] at S5
      obtain ⟨p, hp⟩ : ∃ p, p = a + y := ⟨_, rfl⟩
      have zp : (a : Int) + (y : Int) = (p : Int) := by omega
      have zpw : IntKind.i64.wrap (p : Int) = (p : Int) := IntWalk.i64_in _ (by omega)
      have hpn : (p : Int) < (n : Int) := by omega
      have hxn : (x : Int) < (n : Int) := by omega
      have hsz : d.size = n := J1.out
      obtain ⟨vi, vj, d1, d2, dn, sq1, sq2, sq3, sq4, sq5, sq6, sq7⟩ := swp_vars d (x) (p)
      have SI := Lib.hid (at_arr (d := d) (i := x) (by omega) sq1)
      have SJ := Lib.hid (at_arr (d := d) (i := p) (by omega) sq2)
      have SBI := Lib.hid (show x < d.size by omega)
      have SBJ := Lib.hid (show p < d.size by omega)
      have SQ3 := Lib.hid sq3
      have SQ4 := Lib.hid sq4
      have SQ5 := Lib.hid sq5
      have SQ6 := Lib.hid sq6
      have SQ7 := Lib.hid sq7
      have SZ := Lib.hid (show dn.size = d.size by rw [← sq7]; exact swp_size _ _ _)
      clear sq1 sq2 sq3 sq4 sq5 sq6 sq7
      have HE := Lib.hid (show R = brk a L M k (x + 1) (Sort.xorNext r, dn) by rw [JR.out]; exact brk_step HO.out HY.out hp SQ7.out)
      clear hsz hp
      refine wp_region_state 65 [(47, (.slice (some ⟨g, 0, none⟩) n c)), (48, (.int .i64 ((x : Nat) : Int))), (49, (.slice (some ⟨g, 0, none⟩) n c)), (50, (.int .i64 ((a : Nat) : Int))), (51, (.int .i64 ((y : Nat) : Int))), (52, (.int .i64 ((p : Nat) : Int))), (53, (.slice (some ⟨g, 0, none⟩) n c)), (54, (.int .i64 ((a : Nat) : Int))), (55, (.int .i64 ((y : Nat) : Int))), (56, (.int .i64 ((p : Nat) : Int))), (57, (.pointer (some ⟨g, p, none⟩))), (58, (.int .u16 (vj : Nat))), (59, (.slice (some ⟨g, 0, none⟩) n c)), (60, (.int .i64 ((x : Nat) : Int))), (61, (.pointer (some ⟨g, x, none⟩))), (62, (.int .u16 (vi : Nat))), (63, (.pointer (some ⟨g, x, none⟩))), (64, (.pointer (some ⟨g, p, none⟩)))] (fun L vs w' => Own w0 w' (dat g n c (cond (L 17) (cond (L 19) dn d1) (cond (L 19) d2 d)) :: ps2)) (by kernel_rfl) (by kernel_rfl) [47, 48, 49, 50, 51, 52, 53, 54, 55, 56, 57, 58, 59, 60, 61, 62, 63, 64] (by kernel_rfl) rfl (by kernel_rfl) 20 rfl ?_ ?_ ?_
      · exact fun L hL => (S5.out.ext (Below.refl _ _).drew).cast (by simp [hL 17 (by decide), hL 19 (by decide)])
      · refine ⟨StepS.of [] (by kernel_rfl) ?_, ?_⟩
        · intro L vs wq hL hA hC hJ
          unfold forAll
          exact StepV.val 47 (by kernel_rfl) (by kernel_rfl) rfl (by simp) rfl rfl hJ
        refine ⟨StepS.of [] (by kernel_rfl) ?_, ?_⟩
        · intro L vs wq hL hA hC hJ
          unfold forAll
          exact StepV.val 48 (by kernel_rfl) (by kernel_rfl) rfl (by simp) rfl rfl hJ
        refine ⟨StepS.of [] (by kernel_rfl) ?_, ?_⟩
        · intro L vs wq hL hA hC hJ
          unfold forAll
          exact StepV.val 49 (by kernel_rfl) (by kernel_rfl) rfl (by simp) rfl rfl hJ
        refine ⟨StepS.of [] (by kernel_rfl) ?_, ?_⟩
        · intro L vs wq hL hA hC hJ
          unfold forAll
          exact StepV.val 50 (by kernel_rfl) (by kernel_rfl) rfl (by simp) rfl rfl hJ
        refine ⟨StepS.of [] (by kernel_rfl) ?_, ?_⟩
        · intro L vs wq hL hA hC hJ
          unfold forAll
          exact StepV.val 51 (by kernel_rfl) (by kernel_rfl) rfl (by simp) rfl rfl hJ
        refine ⟨StepS.of [50, 51] (by kernel_rfl) ?_, ?_⟩
        · intro L vs wq hL hA hC hJ h50 h51
          rw [(show vs 50 = (.int .i64 ((a : Nat) : Int)) from h50), (show vs 51 = (.int .i64 ((y : Nat) : Int)) from h51)]
          unfold forAll
          exact StepV.val 52 (by kernel_rfl) (by go_simp) rfl (by simp [Act.put]) rfl rfl hJ
        refine ⟨StepS.of [] (by kernel_rfl) ?_, ?_⟩
        · intro L vs wq hL hA hC hJ
          unfold forAll
          exact StepV.val 53 (by kernel_rfl) (by kernel_rfl) rfl (by simp) rfl rfl hJ
        refine ⟨StepS.of [] (by kernel_rfl) ?_, ?_⟩
        · intro L vs wq hL hA hC hJ
          unfold forAll
          exact StepV.val 54 (by kernel_rfl) (by kernel_rfl) rfl (by simp) rfl rfl hJ
        refine ⟨StepS.of [] (by kernel_rfl) ?_, ?_⟩
        · intro L vs wq hL hA hC hJ
          unfold forAll
          exact StepV.val 55 (by kernel_rfl) (by kernel_rfl) rfl (by simp) rfl rfl hJ
        refine ⟨StepS.of [54, 55] (by kernel_rfl) ?_, ?_⟩
        · intro L vs wq hL hA hC hJ h54 h55
          rw [(show vs 54 = (.int .i64 ((a : Nat) : Int)) from h54), (show vs 55 = (.int .i64 ((y : Nat) : Int)) from h55)]
          unfold forAll
          exact StepV.val 56 (by kernel_rfl) (by go_simp) rfl (by simp [Act.put]) rfl rfl hJ
        refine ⟨StepS.of [53, 56] (by kernel_rfl) ?_, ?_⟩
        · intro L vs wq hL hA hC hJ h53 h56
          rw [(show vs 53 = (.slice (some ⟨g, 0, none⟩) n c) from h53), (show vs 56 = (.int .i64 ((p : Nat) : Int)) from h56)]
          unfold forAll
          exact StepV.val 57 (by kernel_rfl) (by go_simp) rfl (by simp [Act.put]) rfl rfl hJ
        refine ⟨StepS.of [57] (by kernel_rfl) ?_, ?_⟩
        · intro L vs wq hL hA hC hJ h57
          rw [(show vs 57 = (.pointer (some ⟨g, p, none⟩)) from h57)]
          unfold forAll
          have q1 := hC.no (j := 17) (i := 11) (by kernel_rfl) hL
          have q2 := hC.no (j := 19) (i := 11) (by kernel_rfl) hL
          have K := Own.cast (qs := dat g n c d :: ps2) hJ (by simp [q1, q2])
          have t0 := K.rowAt 0 rfl (u := .int .u16 (vj : Nat)) (j := p) SJ.out
          have tl := (K.rowLt 0 rfl).1
          exact StepV.val 58 (by kernel_rfl) (by go_simp) rfl (by simp [Act.put]) rfl rfl hJ
        refine ⟨StepS.of [] (by kernel_rfl) ?_, ?_⟩
        · intro L vs wq hL hA hC hJ
          unfold forAll
          exact StepV.val 59 (by kernel_rfl) (by kernel_rfl) rfl (by simp) rfl rfl hJ
        refine ⟨StepS.of [] (by kernel_rfl) ?_, ?_⟩
        · intro L vs wq hL hA hC hJ
          unfold forAll
          exact StepV.val 60 (by kernel_rfl) (by kernel_rfl) rfl (by simp) rfl rfl hJ
        refine ⟨StepS.of [59, 60] (by kernel_rfl) ?_, ?_⟩
        · intro L vs wq hL hA hC hJ h59 h60
          rw [(show vs 59 = (.slice (some ⟨g, 0, none⟩) n c) from h59), (show vs 60 = (.int .i64 ((x : Nat) : Int)) from h60)]
          unfold forAll
          exact StepV.val 61 (by kernel_rfl) (by go_simp) rfl (by simp [Act.put]) rfl rfl hJ
        refine ⟨StepS.of [61] (by kernel_rfl) ?_, ?_⟩
        · intro L vs wq hL hA hC hJ h61
          rw [(show vs 61 = (.pointer (some ⟨g, x, none⟩)) from h61)]
          unfold forAll
          have q1 := hC.no (j := 17) (i := 15) (by kernel_rfl) hL
          have q2 := hC.no (j := 19) (i := 15) (by kernel_rfl) hL
          have K := Own.cast (qs := dat g n c d :: ps2) hJ (by simp [q1, q2])
          have t0 := K.rowAt 0 rfl (u := .int .u16 (vi : Nat)) (j := x) SI.out
          have tl := (K.rowLt 0 rfl).1
          exact StepV.val 62 (by kernel_rfl) (by go_simp) rfl (by simp [Act.put]) rfl rfl hJ
        refine ⟨StepS.of [47, 48] (by kernel_rfl) ?_, ?_⟩
        · intro L vs wq hL hA hC hJ h47 h48
          rw [(show vs 47 = (.slice (some ⟨g, 0, none⟩) n c) from h47), (show vs 48 = (.int .i64 ((x : Nat) : Int)) from h48)]
          unfold forAll
          exact StepV.val 63 (by kernel_rfl) (by go_simp) rfl (by simp [Act.put]) rfl rfl hJ
        refine ⟨StepS.of [63, 58] (by kernel_rfl) ?_, ?_⟩
        · intro L vs wq hL hA hC hJ h63 h58
          rw [(show vs 63 = (.pointer (some ⟨g, x, none⟩)) from h63), (show vs 58 = (.int .u16 (vj : Nat)) from h58)]
          unfold forAll
          cases q : L 19
          · have K := Own.cast (qs := dat g n c d :: ps2) hJ (by simp [hL, q])
            have tl := (K.rowLt 0 rfl).1; have tf := (K.rowLt 0 rfl).2
            have t0 := K.rowAt 0 rfl (j := x) SI.out
            exact StepV.skip (by kernel_rfl) (by go_simp) rfl rfl ((K.setD (x) vj).cast (by simp [upd, q, SQ3.out]))
          · have K := Own.cast (qs := dat g n c d2 :: ps2) hJ (by simp [hL, q])
            have tl := (K.rowLt 0 rfl).1; have tf := (K.rowLt 0 rfl).2
            obtain ⟨u9, t0⟩ := K.someD (i := x) (by rw [← SQ4.out, Array.size_setIfInBounds]; exact SBI.out)
            exact StepV.skip (by kernel_rfl) (by go_simp) rfl rfl ((K.setD (x) vj).cast (by simp [upd, q, SQ6.out]))
        refine ⟨StepS.of [49, 52] (by kernel_rfl) ?_, ?_⟩
        · intro L vs wq hL hA hC hJ h49 h52
          rw [(show vs 49 = (.slice (some ⟨g, 0, none⟩) n c) from h49), (show vs 52 = (.int .i64 ((p : Nat) : Int)) from h52)]
          unfold forAll
          exact StepV.val 64 (by kernel_rfl) (by go_simp) rfl (by simp [Act.put]) rfl rfl hJ
        refine ⟨StepS.of [64, 62] (by kernel_rfl) ?_, ?_⟩
        · intro L vs wq hL hA hC hJ h64 h62
          rw [(show vs 64 = (.pointer (some ⟨g, p, none⟩)) from h64), (show vs 62 = (.int .u16 (vi : Nat)) from h62)]
          unfold forAll
          cases q : L 17
          · have K := Own.cast (qs := dat g n c d :: ps2) hJ (by simp [hL, q])
            have tl := (K.rowLt 0 rfl).1; have tf := (K.rowLt 0 rfl).2
            have t0 := K.rowAt 0 rfl (j := p) SJ.out
            exact StepV.skip (by kernel_rfl) (by go_simp) rfl rfl ((K.setD (p) vi).cast (by simp [upd, q, SQ4.out]))
          · have K := Own.cast (qs := dat g n c d1 :: ps2) hJ (by simp [hL, q])
            have tl := (K.rowLt 0 rfl).1; have tf := (K.rowLt 0 rfl).2
            obtain ⟨u9, t0⟩ := K.someD (i := p) (by rw [← SQ3.out, Array.size_setIfInBounds]; exact SBJ.out)
            exact StepV.skip (by kernel_rfl) (by go_simp) rfl rfl ((K.setD (p) vi).cast (by simp [upd, q, SQ5.out]))
        exact trivial
      · intro vs wS6 hJ h47 h48 h49 h50 h51 h52 h53 h54 h55 h56 h57 h58 h59 h60 h61 h62 h63 h64
        rw [(show vs 47 = (.slice (some ⟨g, 0, none⟩) n c) from h47), (show vs 48 = (.int .i64 ((x : Nat) : Int)) from h48), (show vs 49 = (.slice (some ⟨g, 0, none⟩) n c) from h49), (show vs 50 = (.int .i64 ((a : Nat) : Int)) from h50), (show vs 51 = (.int .i64 ((y : Nat) : Int)) from h51), (show vs 52 = (.int .i64 ((p : Nat) : Int)) from h52), (show vs 53 = (.slice (some ⟨g, 0, none⟩) n c) from h53), (show vs 54 = (.int .i64 ((a : Nat) : Int)) from h54), (show vs 55 = (.int .i64 ((y : Nat) : Int)) from h55), (show vs 56 = (.int .i64 ((p : Nat) : Int)) from h56), (show vs 57 = (.pointer (some ⟨g, p, none⟩)) from h57), (show vs 58 = (.int .u16 (vj : Nat)) from h58), (show vs 59 = (.slice (some ⟨g, 0, none⟩) n c) from h59), (show vs 60 = (.int .i64 ((x : Nat) : Int)) from h60), (show vs 61 = (.pointer (some ⟨g, x, none⟩)) from h61), (show vs 62 = (.int .u16 (vi : Nat)) from h62), (show vs 63 = (.pointer (some ⟨g, x, none⟩)) from h63), (show vs 64 = (.pointer (some ⟨g, p, none⟩)) from h64)]
        clear h47 h48 h49 h50 h51 h52 h53 h54 h55 h56 h57 h58 h59 h60 h61 h62 h63 h64
        have S6 := Lib.hid (Own.cast (qs := dat g n c dn :: ps2) hJ rfl)
        clear hJ
        unfold forAll
        simp only [Act.put, List.setIfInBounds_toArray, List.set_cons_zero, List.set_cons_succ]
        go_wp2_with fail
        go_roundg k
        case measure => have := JQ.out; omega
        case rel => exact ⟨x + 1, by omega, by go_num, Sort.xorNext r, dn, k, HE.out, by have := JK.out; omega, SZ.out.trans J1.out, rfl, by rw [← HX.out]; subst hps; exact S6.out⟩
end Go.Proofs.YtnienfgaidccpaaDoor
