/- Words: slices.Sort gives the sorted list. No condition. -/
import Derived.Test.YtnienfgaidccpaaDoorRi
import Derived.Test.YtnienfgaidccpaaDoorRl
import Derived.Test.YtnienfgaidccpaaDoorSp
namespace Go.Proofs.YtnienfgaidccpaaDoor
open Go.RowKit Go.Shelf
attribute [local go_sem] Oper.semAt_some

theorem pdq_srt (d : Array Nat) (limit : Nat) : (Sort.pdq ltN d 0 d.size limit true true).toList = srtN d.toList := by
  obtain ⟨h1, h2⟩ := Sort.pdq_sorts ltN swoN d 0 d.size limit true true (Nat.zero_le _) (Nat.le_refl _) (Or.inl rfl)
  have h := Sort.sorted_unique_holds swoN (fun x y h1 h2 => by simp only [ltN, decide_eq_false_iff_not] at h1 h2; omega) d _ h1 h2
  rw [h]
  have e : (fun x y => !ltN y x) = fun x y : Nat => decide (x ≤ y) := by
    funext x y
    rw [Bool.eq_iff_iff]
    simp only [ltN, Bool.not_eq_true', decide_eq_false_iff_not, decide_eq_true_eq]
    omega
  rw [e]
  rfl
set_option maxRecDepth 100000 in
set_option maxHeartbeats 8000000 in
theorem sort_any (w0 : World) (ps : List Piece) (g n c : Nat) (l : List Nat) (W : World) (hO : Own w0 W (row 41 1 (.slice (some ⟨g, 0, none⟩) n c) n (u16s l) :: ps)) (hl : n = l.length) (hn : n ≤ 1000000) :
    Calls Tryd.prog 81 #[.slice (some ⟨g, 0, none⟩) n c] W fun e w' => e = .returned (.tuple #[]) ∧ Own w0 w' (row 41 1 (.slice (some ⟨g, 0, none⟩) n c) n (u16s (srtN l)) :: ps) := by
  obtain ⟨d, hd⟩ : ∃ d : Array Nat, d = l.toArray := ⟨_, rfl⟩
  have hdl : d.toList = l := by rw [hd]
  have hds : d.size = n := by rw [hd, List.size_toArray, hl]
  have S0 := Lib.hid (hO.cast (qs := dat g n c d :: ps) (by rw [dat, hdl]))
  have hB : Lib.bitLen n ≤ 1000 := Nat.le_trans (Lib.bitLen_le n 20 (by decide) (by omega)) (by decide)
  have K9 := fun W => len_any (n : Int) W (by omega) (by omega)
  simp only [Int.toNat_natCast] at K9
  have HS := Lib.hid (show (Sort.pdq ltN d 0 n (Lib.bitLen n) true true).toList = srtN l by rw [← hds, pdq_srt, hdl])
  have KP := Lib.hid (fun W hO => pdq_any (n + 1) w0 ps g n c d W hO 0 n (Lib.bitLen n) hds (Nat.zero_le _) (Nat.le_refl _) hn hB (Or.inl rfl) (by omega))
  generalize Lib.bitLen n = B at *
  replace K9 := Lib.hid K9
  generalize Sort.pdq ltN d 0 n B true true = R at *
  clear hO hd hdl hds hl
  have zn : IntKind.u64.wrap (n : Int) = (n : Int) := IntWalk.u64_in _ (by omega)
  go_enter Tryd.func81, Tryd.ntmps81
  go_wp2_with (go_at_call 99; refine (K9.out _).mono ?_; rintro e w1 ⟨rfl, rfl⟩)
  refine (KP.out _ S0.out).mono ?_
  rintro e w1 ⟨rfl, hO1⟩
  have S1 := Lib.hid hO1
  clear hO1
  go_wp2_with fail
  go_end0
  exact ⟨rfl, S1.out.cast (by rw [dat, HS.out])⟩
end Go.Proofs.YtnienfgaidccpaaDoor
