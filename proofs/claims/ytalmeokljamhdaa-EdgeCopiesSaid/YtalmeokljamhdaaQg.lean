/- EdgeQueues: new queues, checks, joins and calls are as the document says; the queue stays. For every input. -/
import Derived.Test.YtalmeokljamhdaaQf
namespace Go.Proofs.Ytalmeokljamhdaa
open Go.RowKit

/-- Between two block numbers memory may have changed, elsewhere not. -/
structure Only (lo hi : Nat) (w w' : World) : Prop where
  os : w'.os = w.os
  tape : w'.tape = w.tape
  output : w'.output = w.output
  size : w.heap.size ≤ w'.heap.size
  block : ∀ k, k < w.heap.size → (k < lo ∨ hi ≤ k) → w'.heap[k]? = w.heap[k]?
theorem Only.refl (lo hi : Nat) (w : World) : Only lo hi w w := ⟨rfl, rfl, rfl, Nat.le_refl _, fun _ _ _ => rfl⟩
theorem Only.set {lo hi : Nat} {w w' : World} (h : Only lo hi w w') {b o : Nat} (hb : lo ≤ b) (hb' : b < hi) (u : Value) : Only lo hi w (w'.setCell ⟨b, o, none⟩ u) :=
  ⟨h.os, h.tape, h.output, by simpa using h.size, fun k hk hk' => (Below.heap_setCell _ _ _ _ (by simp only; omega)).trans (h.block k hk hk')⟩
theorem Only.below {lo hi : Nat} {w w' : World} (h : Only lo hi w w') (hlo : lo ≤ w.heap.size) : Below lo w w' := ⟨h.os, h.tape, h.output, h.size, fun k hk => h.block k (by omega) (.inl hk)⟩
theorem Box.only {lo hi : Nat} {w w' : World} {B : Nat} {cs : List Value} (h : Box w B cs) (ho : Only lo hi w w') (hB : B < lo ∨ hi ≤ B) : Box w' B cs := by
  have hk := ho.block B h.2.2 hB
  exact ⟨fun i u hu => (World.cell?_of_block (a := ⟨B, i, none⟩) hk).trans (h.1 i u hu), fun o => (World.frozen?_of_block (a := ⟨B, o, none⟩) hk).trans (h.2.1 o), by have := ho.size; have := h.2.2; omega⟩
theorem Rd.only {lo hi : Nat} {w w' : World} {A : Option Addr} {xs : List Value} (h : Rd w A xs) (ho : Only lo hi w w') (hB : ∀ b off, A = some ⟨b, off, none⟩ → xs = [] ∨ b < lo ∨ hi ≤ b) : Rd w' A xs := by
  rcases h with h | ⟨b, off, h1, h2, h3⟩
  · exact .inl h
  · rcases hB b off h1 with h' | h'
    · exact .inl h'
    · exact .inr ⟨b, off, h1, by have := ho.size; omega, fun j u hu => (World.cell?_of_block (a := ⟨b, off + j, none⟩) (ho.block b h2 h')).trans (h3 j u hu)⟩
/-- Cells that may be written. -/
def Wr (w : World) (lo hi : Nat) (A : Option Addr) (m : Nat) : Prop :=
  m = 0 ∨ ∃ b off, A = some ⟨b, off, none⟩ ∧ lo ≤ b ∧ b < hi ∧ b < w.heap.size ∧ (∀ j, j < m → (w.cell? ⟨b, off + j, none⟩).isSome = true) ∧ ∀ o, w.frozen? ⟨b, o, none⟩ = false
theorem Ow.wr {w : World} {base : Nat} {A : Option Addr} {xs : List Value} (h : Ow w base A xs) : Wr w base w.heap.size A xs.length := by
  rcases h with h | ⟨b, off, h1, h2, h3, h4, h5⟩
  · subst h; exact .inl rfl
  · exact .inr ⟨b, off, h1, h2, h3, h3, fun j hj => by rw [h4 j _ (List.getElem?_eq_getElem hj)]; rfl, h5⟩
theorem Wr.below {w w' : World} {lo hi : Nat} {A : Option Addr} {m : Nat} (h : Wr w lo hi A m) (hb : Below w.heap.size w w') : Wr w' lo hi A m := by
  rcases h with h | ⟨b, off, h1, h2, h3, h4, h5, h6⟩
  · exact .inl h
  · exact .inr ⟨b, off, h1, h2, h3, by have := hb.size; omega, fun j hj => by rw [hb.cell (p := ⟨b, off + j, none⟩) h4]; exact h5 j hj, fun o => (hb.frozen (p := ⟨b, o, none⟩) h4).trans (h6 o)⟩
theorem Wr.only {lo hi lo' hi' : Nat} {w w' : World} {A : Option Addr} {m : Nat} (h : Wr w lo hi A m) (ho : Only lo' hi' w w') (hd : hi' ≤ lo) : Wr w' lo hi A m := by
  rcases h with h | ⟨b, off, h1, h2, h3, h4, h5, h6⟩
  · exact .inl h
  · have hk := ho.block b h4 (.inr (by omega))
    exact .inr ⟨b, off, h1, h2, h3, by have := ho.size; omega, fun j hj => by rw [World.cell?_of_block (a := ⟨b, off + j, none⟩) hk]; exact h5 j hj, fun o => (World.frozen?_of_block (a := ⟨b, o, none⟩) hk).trans (h6 o)⟩
theorem Wr.set {w : World} {lo hi : Nat} {A : Option Addr} {m : Nat} (h : Wr w lo hi A m) (p : Addr) (u : Value) : Wr (w.setCell p u) lo hi A m := by
  rcases h with h | ⟨b, off, h1, h2, h3, h4, h5, h6⟩
  · exact .inl h
  · refine .inr ⟨b, off, h1, h2, h3, by simpa using h4, fun j hj => ?_, fun o => by rw [World.frozen?_setCell]; exact h6 o⟩
    by_cases he : p = ⟨b, off + j, none⟩
    · subst he
      obtain ⟨v, hv⟩ := Option.isSome_iff_exists.1 (h5 j hj)
      rw [World.cell?_setCell_same w _ u hv]; rfl
    · rw [World.cell?_setCell_other w _ _ u he]; exact h5 j hj

set_option maxRecDepth 100000 in
set_option maxHeartbeats 8000000 in
theorem edgeQueues_walk (lim next limit : Int) (fast : Bool) (A : Option Addr) (l : List Gst) (n c : Nat) (w : World) (hr : Rd w A (flat genc l)) (hn : n = l.length) :
    Calls Try.prog 3 #[.agg #[.int .i64 lim, .int .i64 next, .slice A n c], .int .i64 limit, .bool fast] w fun e w' => e = .returned (.bool true) ∧ Below w.heap.size w w' := by
  have HR := Lib.hid hr
  have HN := Lib.hid hn
  clear hr hn
  by_cases h50 : 50 < n
  · go_enter Try.func3, Try.ntmps3
    go_wp2
    go_ret
    exact ⟨rfl, below_alloc _ _⟩
  have hl : n ≤ 1000 := by omega
  have hd50 : decide (50 < (n : Int)) = false := by simp; omega
  obtain ⟨rj, hrj⟩ : ∃ r, r = joinF lim next l fast := ⟨_, rfl⟩
  obtain ⟨rc, hrc⟩ : ∃ r, r = callF lim next l := ⟨_, rfl⟩
  have hjl : rj.2.2.1.length ≤ 1000 := by
    rw [hrj]; unfold joinF
    have := HN.out
    split <;> (try split) <;> simp <;> omega
  have hcl : rc.2.2.1.length ≤ 1000 := by
    rw [hrc]; unfold callF
    have := HN.out
    split <;> (try split) <;> simp <;> omega
  have HRJ := Lib.hid hrj
  have HRC := Lib.hid hrc
  clear hrj hrc
  go_enter Try.func3, Try.ntmps3
  go_wp2_with fail
  refine (twin_any _ _ _ l _ _ _ (HR.out.below (below_alloc _ _)) HN.out hl).mono ?_
  rintro e w1 ⟨v, rfl, hown1, hb⟩
  obtain ⟨A1, c1, rfl, how1⟩ := rd_of_own hown1
  rw [← HN.out] at hown1 ⊢
  have hcap1 : n ≤ c1 := own_cap hown1
  have HOW1 := Lib.hid (how1.mono (base' := w.heap.size) (by simp))
  have hob1 : ∀ b off, A1 = some ⟨b, off, none⟩ → flat genc l = [] ∨ b < w1.heap.size := by
    intro b off h
    rcases how1.rd with h' | ⟨b', off', h1, h2, _⟩
    · exact .inl h'
    · rw [h] at h1
      injection h1 with h1
      injection h1 with h1 _
      exact .inr (by omega)
  have HOB1 := Lib.hid hob1
  have hobq : ∀ b off, A = some ⟨b, off, none⟩ → flat genc l = [] ∨ b < w.heap.size := by
    intro b off h
    rcases HR.out with h' | ⟨b', off', h1, h2, _⟩
    · exact .inl h'
    · rw [h] at h1
      injection h1 with h1
      injection h1 with h1 _
      exact .inr (by omega)
  have HOBQ := Lib.hid hobq
  have HX0 := Lib.hid ((Box.new w 24 _).ext hb)
  have HB := Lib.hid (below_step (below_alloc w _) hb)
  have HRQ := Lib.hid (HR.out.below (below_step (below_alloc w _) hb))
  have hsz1 : w.heap.size < w1.heap.size := by have := hb.size; simp only [World.size_alloc] at this; omega
  clear hown1 how1 hb hob1 hobq
  go_wp2_with fail
  refine (newQueue_any limit _).mono ?_
  rintro e w2 ⟨rfl, hb⟩
  have HX7 := Lib.hid ((Box.new w1 24 _).ext hb)
  replace HX0 := Lib.hid ((HX0.out.alloc _).ext hb)
  replace HB := Lib.hid (below_step (below_more HB.out _) hb)
  replace HRQ := Lib.hid (HRQ.out.below (below_step (below_alloc _ _) hb))
  replace HOW1 := Lib.hid (HOW1.out.below (below_step (below_alloc _ _) hb))
  have hsz2 : w1.heap.size < w2.heap.size := by have := hb.size; simp only [World.size_alloc] at this; omega
  clear hb
  go_wp2_with fail
  refine (refNewQueue_any limit _).mono ?_
  rintro e w3 ⟨rfl, hb⟩
  have HX8 := Lib.hid ((Box.new w2 24 _).ext hb)
  replace HX0 := Lib.hid ((HX0.out.alloc _).ext hb)
  replace HX7 := Lib.hid ((HX7.out.alloc _).ext hb)
  replace HB := Lib.hid (below_step (below_more HB.out _) hb)
  replace HRQ := Lib.hid (HRQ.out.below (below_step (below_alloc _ _) hb))
  replace HOW1 := Lib.hid (HOW1.out.below (below_step (below_alloc _ _) hb))
  have hsz3 : w2.heap.size < w3.heap.size := by have := hb.size; simp only [World.size_alloc] at this; omega
  clear hb
  obtain ⟨p0, p1, p2, pf⟩ := HX7.out.c3
  have hlt := HX7.out.2.2
  go_wp2_with fail
  refine (join_any _ _ _ l _ _ _ _ (HOW1.out.rd.below (below_alloc _ _)) HN.out hl hcap1).mono ?_
  rintro e w4 ⟨A4, c4, he, how, hb⟩
  clear p0 p1 p2 pf hlt
  have HX10 := Lib.hid ((Box.new w3 24 _).ext hb)
  replace HX0 := Lib.hid ((HX0.out.alloc _).ext hb)
  replace HX7 := Lib.hid ((HX7.out.alloc _).ext hb)
  replace HX8 := Lib.hid ((HX8.out.alloc _).ext hb)
  replace HB := Lib.hid (below_step (below_more HB.out _) hb)
  replace HRQ := Lib.hid (HRQ.out.below (below_step (below_alloc _ _) hb))
  replace HOW1 := Lib.hid (HOW1.out.below (below_step (below_alloc _ _) hb))
  have hsz4 : w3.heap.size < w4.heap.size := by have := hb.size; simp only [World.size_alloc] at this; omega
  rw [← HRJ.out] at he how
  subst he
  have HOW4 := Lib.hid how
  have HWR4 := Lib.hid how.wr
  simp only [World.size_alloc] at HOW4 HWR4
  clear how
  clear hb
  obtain ⟨p0, p1, p2, pf⟩ := HX0.out.c3
  have hlt := HX0.out.2.2
  go_wp2_with fail
  refine (refJoin_any _ _ _ l _ _ _ _ (HRQ.out.below (below_alloc _ _)) HN.out hl).mono ?_
  rintro e w5 ⟨A5, c5, he, how, hb⟩
  clear p0 p1 p2 pf hlt
  have HX12 := Lib.hid ((Box.new w4 24 _).ext hb)
  replace HX0 := Lib.hid ((HX0.out.alloc _).ext hb)
  replace HX7 := Lib.hid ((HX7.out.alloc _).ext hb)
  replace HX8 := Lib.hid ((HX8.out.alloc _).ext hb)
  replace HX10 := Lib.hid ((HX10.out.alloc _).ext hb)
  replace HB := Lib.hid (below_step (below_more HB.out _) hb)
  replace HRQ := Lib.hid (HRQ.out.below (below_step (below_alloc _ _) hb))
  replace HOW1 := Lib.hid (HOW1.out.below (below_step (below_alloc _ _) hb))
  replace HOW4 := Lib.hid (HOW4.out.below (below_step (below_alloc _ _) hb))
  replace HWR4 := Lib.hid (HWR4.out.below (below_step (below_alloc _ _) hb))
  have hsz5 : w4.heap.size < w5.heap.size := by have := hb.size; simp only [World.size_alloc] at this; omega
  rw [← HRJ.out] at he how
  subst he
  have HRD5 := Lib.hid how.rd
  clear how
  clear hb
  obtain ⟨p0, p1, p2, pf⟩ := HX7.out.c3
  have hlt := HX7.out.2.2
  go_wp2_with fail
  refine (call_any _ _ _ l _ _ _ (HOW1.out.rd.below (below_alloc _ _)) HN.out hl hcap1).mono ?_
  rintro e w6 ⟨A6, c6, he, how, hb⟩
  clear p0 p1 p2 pf hlt
  have HX15 := Lib.hid ((Box.new w5 24 _).ext hb)
  replace HX0 := Lib.hid ((HX0.out.alloc _).ext hb)
  replace HX7 := Lib.hid ((HX7.out.alloc _).ext hb)
  replace HX8 := Lib.hid ((HX8.out.alloc _).ext hb)
  replace HX10 := Lib.hid ((HX10.out.alloc _).ext hb)
  replace HX12 := Lib.hid ((HX12.out.alloc _).ext hb)
  replace HB := Lib.hid (below_step (below_more HB.out _) hb)
  replace HRQ := Lib.hid (HRQ.out.below (below_step (below_alloc _ _) hb))
  replace HOW1 := Lib.hid (HOW1.out.below (below_step (below_alloc _ _) hb))
  replace HOW4 := Lib.hid (HOW4.out.below (below_step (below_alloc _ _) hb))
  replace HWR4 := Lib.hid (HWR4.out.below (below_step (below_alloc _ _) hb))
  replace HRD5 := Lib.hid (HRD5.out.below (below_step (below_alloc _ _) hb))
  have hsz6 : w5.heap.size < w6.heap.size := by have := hb.size; simp only [World.size_alloc] at this; omega
  rw [← HRC.out] at he how
  subst he
  have HOW6 := Lib.hid how
  have HWR6 := Lib.hid how.wr
  simp only [World.size_alloc] at HOW6 HWR6
  clear how
  clear hb
  obtain ⟨p0, p1, p2, pf⟩ := HX0.out.c3
  have hlt := HX0.out.2.2
  go_wp2_with fail
  refine (refCall_any _ _ _ l _ _ _ (HRQ.out.below (below_alloc _ _)) HN.out hl).mono ?_
  rintro e w7 ⟨A7, c7, he, how, hb⟩
  clear p0 p1 p2 pf hlt
  have HX18 := Lib.hid ((Box.new w6 24 _).ext hb)
  replace HX0 := Lib.hid ((HX0.out.alloc _).ext hb)
  replace HX7 := Lib.hid ((HX7.out.alloc _).ext hb)
  replace HX8 := Lib.hid ((HX8.out.alloc _).ext hb)
  replace HX10 := Lib.hid ((HX10.out.alloc _).ext hb)
  replace HX12 := Lib.hid ((HX12.out.alloc _).ext hb)
  replace HX15 := Lib.hid ((HX15.out.alloc _).ext hb)
  replace HB := Lib.hid (below_step (below_more HB.out _) hb)
  replace HRQ := Lib.hid (HRQ.out.below (below_step (below_alloc _ _) hb))
  replace HOW1 := Lib.hid (HOW1.out.below (below_step (below_alloc _ _) hb))
  replace HOW4 := Lib.hid (HOW4.out.below (below_step (below_alloc _ _) hb))
  replace HWR4 := Lib.hid (HWR4.out.below (below_step (below_alloc _ _) hb))
  replace HRD5 := Lib.hid (HRD5.out.below (below_step (below_alloc _ _) hb))
  replace HOW6 := Lib.hid (HOW6.out.below (below_step (below_alloc _ _) hb))
  replace HWR6 := Lib.hid (HWR6.out.below (below_step (below_alloc _ _) hb))
  have hsz7 : w6.heap.size < w7.heap.size := by have := hb.size; simp only [World.size_alloc] at this; omega
  rw [← HRC.out] at he how
  subst he
  have HRD7 := Lib.hid how.rd
  clear how
  clear hb
  go_upto_region 10 with fail
  have HX21 := Lib.hid (Box.new w7 24 #[.int .i64 rc.1, .int .i64 rc.2.1, .slice A7 rc.2.2.1.length c7])
  replace HX0 := Lib.hid (HX0.out.alloc (.cells #[.int .i64 rc.1, .int .i64 rc.2.1, .slice A7 rc.2.2.1.length c7] 24))
  replace HX7 := Lib.hid (HX7.out.alloc (.cells #[.int .i64 rc.1, .int .i64 rc.2.1, .slice A7 rc.2.2.1.length c7] 24))
  replace HX8 := Lib.hid (HX8.out.alloc (.cells #[.int .i64 rc.1, .int .i64 rc.2.1, .slice A7 rc.2.2.1.length c7] 24))
  replace HX10 := Lib.hid (HX10.out.alloc (.cells #[.int .i64 rc.1, .int .i64 rc.2.1, .slice A7 rc.2.2.1.length c7] 24))
  replace HX12 := Lib.hid (HX12.out.alloc (.cells #[.int .i64 rc.1, .int .i64 rc.2.1, .slice A7 rc.2.2.1.length c7] 24))
  replace HX15 := Lib.hid (HX15.out.alloc (.cells #[.int .i64 rc.1, .int .i64 rc.2.1, .slice A7 rc.2.2.1.length c7] 24))
  replace HX18 := Lib.hid (HX18.out.alloc (.cells #[.int .i64 rc.1, .int .i64 rc.2.1, .slice A7 rc.2.2.1.length c7] 24))
  replace HB := Lib.hid (below_more HB.out (.cells #[.int .i64 rc.1, .int .i64 rc.2.1, .slice A7 rc.2.2.1.length c7] 24))
  replace HRQ := Lib.hid (HRQ.out.below (below_alloc _ (.cells #[.int .i64 rc.1, .int .i64 rc.2.1, .slice A7 rc.2.2.1.length c7] 24)))
  replace HOW1 := Lib.hid (HOW1.out.below (below_alloc _ (.cells #[.int .i64 rc.1, .int .i64 rc.2.1, .slice A7 rc.2.2.1.length c7] 24)))
  replace HOW4 := Lib.hid (HOW4.out.below (below_alloc _ (.cells #[.int .i64 rc.1, .int .i64 rc.2.1, .slice A7 rc.2.2.1.length c7] 24)))
  replace HWR4 := Lib.hid (HWR4.out.below (below_alloc _ (.cells #[.int .i64 rc.1, .int .i64 rc.2.1, .slice A7 rc.2.2.1.length c7] 24)))
  replace HRD5 := Lib.hid (HRD5.out.below (below_alloc _ (.cells #[.int .i64 rc.1, .int .i64 rc.2.1, .slice A7 rc.2.2.1.length c7] 24)))
  replace HOW6 := Lib.hid (HOW6.out.below (below_alloc _ (.cells #[.int .i64 rc.1, .int .i64 rc.2.1, .slice A7 rc.2.2.1.length c7] 24)))
  replace HWR6 := Lib.hid (HWR6.out.below (below_alloc _ (.cells #[.int .i64 rc.1, .int .i64 rc.2.1, .slice A7 rc.2.2.1.length c7] 24)))
  replace HRD7 := Lib.hid (HRD7.out.below (below_alloc _ (.cells #[.int .i64 rc.1, .int .i64 rc.2.1, .slice A7 rc.2.2.1.length c7] 24)))
  have hszW : w7.heap.size < (w7.alloc (.cells #[.int .i64 rc.1, .int .i64 rc.2.1, .slice A7 rc.2.2.1.length c7] 24)).heap.size := by simp
  generalize w7.alloc (.cells #[.int .i64 rc.1, .int .i64 rc.2.1, .slice A7 rc.2.2.1.length c7] 24) = W at HX0 HX7 HX8 HX10 HX12 HX15 HX18 HX21 HB HRQ HOW1 HOW4 HWR4 HRD5 HOW6 HWR6 HRD7 hszW ⊢
  obtain ⟨a00, a01, a02, a0f⟩ := HX0.out.c3
  have hlt0 := HX0.out.2.2
  obtain ⟨a70, a71, a72, a7f⟩ := HX7.out.c3
  have hlt7 := HX7.out.2.2
  obtain ⟨a80, a81, a82, a8f⟩ := HX8.out.c3
  have hlt8 := HX8.out.2.2
  obtain ⟨a100, a101, a102, a10f⟩ := HX10.out.c3
  have hlt10 := HX10.out.2.2
  obtain ⟨a120, a121, a122, a12f⟩ := HX12.out.c3
  have hlt12 := HX12.out.2.2
  obtain ⟨a150, a151, a152, a15f⟩ := HX15.out.c3
  have hlt15 := HX15.out.2.2
  obtain ⟨a180, a181, a182, a18f⟩ := HX18.out.c3
  have hlt18 := HX18.out.2.2
  obtain ⟨a210, a211, a212, a21f⟩ := HX21.out.c3
  have hlt21 := HX21.out.2.2
  have hne : Nonempty (ExtOf W) := ⟨⟨W, Below.refl _ _⟩⟩
  refine wp_region_ext (by kernel_rfl) (by kernel_rfl) ?_
  iterate 15 (go_big_quiet_step ((first | (go_at_call 24; exact ext_of (sameQueue_true _ _ none none [] 0 _ _ _ (Rd.nil _ _) (Rd.nil _ _) rfl (Nat.zero_le _))) | (go_at_call 25; exact ext_of (checkQueue_any _ _ _ l _ _ _ (HOW1.out.rd.below (ExtOf.ext _)) HN.out hl)) | (go_at_call 26; exact ext_of (refCheckQueue_any _ _ _ l _ _ _ (HRQ.out.below (ExtOf.ext _)) HN.out hl)))))
  iterate 15 (go_big_quiet_step ((go_at_call 24; exact ext_of (sameQueue_true _ _ _ _ rj.2.2.1 _ _ _ _ (HOW4.out.rd.below (ExtOf.ext _)) (HRD5.out.below (ExtOf.ext _)) rfl hjl))))
  iterate 16 (go_big_quiet_step ((go_at_call 24; exact ext_of (sameQueue_true _ _ _ _ rc.2.2.1 _ _ _ _ (HOW6.out.rd.below (ExtOf.ext _)) (HRD7.out.below (ExtOf.ext _)) rfl hcl))))
  refine wpQuiet_nil ?_
  intro X hw'
  obtain ⟨⟨X', hX⟩, hw''⟩ := hw'
  simp only at hw''
  subst hw''
  clear hne a00 a01 a02 a0f hlt0 a70 a71 a72 a7f hlt7 a80 a81 a82 a8f hlt8 a100 a101 a102 a10f hlt10 a120 a121 a122 a12f hlt12 a150 a151 a152 a15f hlt15 a180 a181 a182 a18f hlt18 a210 a211 a212 a21f hlt21
  replace HX0 := Lib.hid (HX0.out.ext hX)
  replace HX7 := Lib.hid (HX7.out.ext hX)
  replace HX12 := Lib.hid (HX12.out.ext hX)
  replace HX18 := Lib.hid (HX18.out.ext hX)
  clear HX8 HX10 HX15 HX21 HOW4 HOW6 HRD5 HRD7
  replace HB := Lib.hid (below_step HB.out hX)
  replace HRQ := Lib.hid (HRQ.out.below hX)
  replace HOW1 := Lib.hid (HOW1.out.rd.below hX)
  replace HWR4 := Lib.hid (HWR4.out.below hX)
  replace HWR6 := Lib.hid (HWR6.out.below hX)
  rw [flat_length genc 3 genc_len] at HWR4 HWR6
  have hszX : w7.heap.size < X.heap.size := by have := hX.size; omega
  clear hX hszW
  generalize rj.2.2.1.length = m4 at hjl HWR4 HX12 ⊢
  generalize rc.2.2.1.length = m6 at hcl HWR6 HX18 ⊢
  obtain ⟨p0, p1, p2, pf⟩ := HX12.out.c3
  go_wp2
  clear p0 p1 p2 pf
  go_loopw [117] (fun u117 wr => ∃ (k : Nat), k ≤ m4 ∧ u117 = .int .i64 k ∧ Only (w3.heap.size + 1) w4.heap.size X wr ∧ Hid (Wr wr (w3.heap.size + 1) w4.heap.size A4 (m4 * 3))) (fun u117 _ => m4 - (intOf u117).toNat)
  case atStart => exact ⟨0, Nat.zero_le _, rfl, Only.refl _ _ _, HWR4.out⟩
  case round =>
    obtain ⟨k, hk, rfl, ho, hwr⟩ := hrel
    by_cases hlt : k < m4
    · obtain ⟨p0, p1, p2, pf⟩ := (HX12.out.only ho (.inr (Nat.le_refl _))).c3
      rcases hwr.out with h0 | ⟨b4, off4, rfl, hlo, hhi, hbw, hcell, hfr⟩
      · exact absurd h0 (by omega)
      obtain ⟨v4, hv4⟩ := Option.isSome_iff_exists.1 (hcell (k * 3) (by omega))
      have hkm : (k : Int) < m4 := by omega
      clear hcell
      go_wp2
      go_roundw
      case rel => exact ⟨k + 1, by omega, by go_num, ho.set hlo hhi _, Wr.set hwr.out _ _⟩
      case measure => simp [intOf]; omega
    · have hy0 := Lib.hid (HX0.out.only ho (.inl (by omega)))
      have hy7 := Lib.hid (HX7.out.only ho (.inl (by omega)))
      have hy18 := Lib.hid (HX18.out.only ho (.inr (by omega)))
      have hyq := Lib.hid (HRQ.out.only ho (fun b off h => (HOBQ.out b off h).imp_right (fun h => .inl (by omega))))
      have hy1 := Lib.hid (HOW1.out.only ho (fun b off h => (HOB1.out b off h).imp_right (fun h => .inl (by omega))))
      have hyw := Lib.hid (HWR6.out.only ho (by omega))
      have hyb := Lib.hid (HB.out.trans ((ho.below (by omega)).mono (by omega)))
      have hszr : X.heap.size ≤ wr.heap.size := ho.size
      clear HX0 HX7 HX12 HX18 HRQ HOW1 HWR4 HWR6 HB ho hwr
      obtain ⟨p0, p1, p2, pf⟩ := hy18.out.c3
      obtain ⟨W8, hW8⟩ : ∃ W8 : World, W8 = wr := ⟨_, rfl⟩
      subst hW8
      go_wp2
      clear p0 p1 p2 pf
      go_loopw [129] (fun u129 wr => ∃ (k : Nat), k ≤ m6 ∧ u129 = .int .i64 k ∧ Only (w5.heap.size + 1) w6.heap.size W8 wr ∧ Hid (Wr wr (w5.heap.size + 1) w6.heap.size A6 (m6 * 3))) (fun u129 _ => m6 - (intOf u129).toNat)
      case atStart => exact ⟨0, Nat.zero_le _, rfl, Only.refl _ _ _, hyw.out⟩
      case round =>
        obtain ⟨k, hk, rfl, ho, hwr⟩ := hrel
        by_cases hlt : k < m6
        · obtain ⟨p0, p1, p2, pf⟩ := (hy18.out.only ho (.inr (Nat.le_refl _))).c3
          rcases hwr.out with h0 | ⟨b4, off4, rfl, hlo, hhi, hbw, hcell, hfr⟩
          · exact absurd h0 (by omega)
          obtain ⟨v4, hv4⟩ := Option.isSome_iff_exists.1 (hcell (k * 3) (by omega))
          have hkm : (k : Int) < m6 := by omega
          clear hcell
          go_wp2
          go_roundw
          case rel => exact ⟨k + 1, by omega, by go_num, ho.set hlo hhi _, Wr.set hwr.out _ _⟩
          case measure => simp [intOf]; omega
        · obtain ⟨p0, p1, p2, pf⟩ := (hy0.out.only ho (.inl (by omega))).c3
          obtain ⟨q0, q1, q2, qf⟩ := (hy7.out.only ho (.inl (by omega))).c3
          have hzq := Lib.hid (hyq.out.only ho (fun b off h => (HOBQ.out b off h).imp_right (fun h => .inl (by omega))))
          have hz1 := Lib.hid (hy1.out.only ho (fun b off h => (HOB1.out b off h).imp_right (fun h => .inl (by omega))))
          have hzb := Lib.hid (hyb.out.trans ((ho.below (by omega)).mono (by omega)))
          clear ho hwr
          go_wp2_with fail
          refine (sameQueue_true _ _ _ _ l _ _ _ _ hz1.out hzq.out HN.out hl).mono ?_
          rintro e w9 ⟨rfl, hb9⟩
          go_wp2
          go_ret
          exact ⟨rfl, below_step hzb.out hb9⟩
end Go.Proofs.Ytalmeokljamhdaa
