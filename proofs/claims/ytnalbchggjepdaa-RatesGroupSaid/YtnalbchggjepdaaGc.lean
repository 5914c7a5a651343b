/- Rates: whether trials are valid: the program. No condition. -/
import Derived.Test.YtnalbchggjepdaaGb
import Derived.Test.YtnalbchggjepdaaTc
import Derived.Maps.RangeWalk
namespace Go.Proofs.Ytnalbchggjepdaa
open Go.RowKit Go.Maps Go.ChangeShapes Go.Shelf
attribute [local go_sem] Oper.semAt_some

noncomputable abbrev gR (w : World) (base : Nat) : Value → Option (DataW Unit × List MemPlace) := rowElem (H := Unit) w base 3 .i64
def slV (c : Option Addr × Nat × Nat) : Value := .slice c.1 c.2.1 c.2.2
theorem keyInvI (key : Value) (kl : Lit) (h : keyOf Try.prog 3 key = some kl) : ∃ x, key = .int .i64 x := by
  obtain ⟨x, rfl, _⟩ := Maps.keyOf_int_inv Try.underlying3 h
  exact ⟨x, rfl⟩
theorem gR_inv (w : World) (base : Nat) (v : Value) (y : DataW Unit × List MemPlace) (h : gR w base v = some y) : ∃ c, v = slV c := by
  obtain ⟨zs, ho, _⟩ := rowElem_inv h
  rcases ho.1.2 with ⟨rfl, _⟩ | ⟨g, cap, cur, rfl, _⟩
  · exact ⟨(none, 0, 0), rfl⟩
  · exact ⟨(some ⟨g, 0, none⟩, zs.length, cap), rfl⟩
theorem groups_map {w : World} {base b n : Nat} {D : DataW Unit} (h : w.ownsGroups Try.prog 3 base 3 .i64 b n D) : w.ownsMap Try.prog 3 (gR w base) b n D := by
  obtain ⟨es, clock, h1, h2, h3, h4, _⟩ := h
  exact ⟨es, clock, h1, h2, h3, h4⟩
set_option maxRecDepth 100000 in
/-- An entry of the map: a group's scores. -/
theorem group_entry {w : World} {base : Nat} {D : DataW Unit} {l : List Dbl} (hG : GS D l) {x : Int} {c : Option Addr × Nat × Nat} {kl : Lit} {y : DataW Unit × List MemPlace} (hk : keyOf Try.prog 3 (.int .i64 x) = some kl) (hR : gR w base (slV c) = some y) (hat : ∀ zd, D.atKey kl zd = y.1) :
    kl = .int .i64 x ∧ (Lit.int .i64 x).wf = true ∧ c.2.1 = (dif l x).length ∧ Ow w base c.1 (ints (dif l x)) ∧ dif l x ≠ [] := by
  obtain ⟨x', e1, rfl, hw⟩ := Maps.keyOf_int_inv Try.underlying3 hk
  obtain rfl := (Value.int.inj e1).2
  obtain ⟨zs, ho, rfl⟩ := rowElem_inv hR
  have hz := GS_zs hG hw ho (hat .nil)
  subst hz
  refine ⟨rfl, hw, ?_, ?_, hG.1.2 _ (Maps.has_true_of_atKey hat)⟩
  · rcases ho.1.2 with ⟨e, h0⟩ | ⟨g, cap, cur, e, _⟩
    · have e2 : c.2.1 = 0 := (Value.slice.inj e).2.1
      rw [e2, h0]
    · exact (Value.slice.inj e).2.1
  · obtain ⟨A, cc, e, h⟩ := rd_of_own ho.1
    have e1 : c.1 = A := (Value.slice.inj e).1
    rw [e1]
    exact h
theorem has_of_dif {D : DataW Unit} {l : List Dbl} (hG : GS D l) {g : Int} (hw : (Lit.int .i64 g).wf = true) (h : Maps.has D (.int .i64 g) = false) : dif l g = [] := by
  have h1 := hG.2 g hw
  rw [atKey_of_not_has h] at h1
  unfold datD at h1
  split at h1
  · assumption
  · cases h1
theorem dif_small {l : List Dbl} (hok : okT l = true) {g : Int} (h : 0 < (dif l g).length) : 0 ≤ g ∧ g ≤ 7 := by
  obtain ⟨z, hz⟩ := List.exists_mem_of_length_pos h
  obtain ⟨x, hx, _⟩ := List.mem_map.1 hz
  obtain ⟨hx1, hx2⟩ := List.mem_filter.1 hx
  have := List.all_eq_true.1 hok x hx1
  simp only [trB, inB, Bool.and_eq_true, decide_eq_true_eq] at this
  simp only [difB, Bool.and_eq_true, decide_eq_true_eq] at hx2
  omega
theorem few_of {l : List Dbl} (h : ∀ g : Nat, g < 8 → (dif l (g : Nat)).length ≤ 60) : few l 8 = true := by
  unfold few
  rw [List.all_eq_true]
  intro g hg
  exact decide_eq_true (h g (List.mem_range.1 hg))
set_option maxRecDepth 100000 in
set_option maxHeartbeats 8000000 in
theorem checkTrials_any (A : Option Addr) (l : List Dbl) (n c : Nat) (w : World) (hr : Rd w A (flat encD l)) (hn : n = l.length) (hl : n ≤ 1000000) :
    Calls Try.prog 38 #[.slice A n c] w fun e w' => e = .returned (.int .i64 (trlE l)) ∧ Below w.heap.size w w' := by
  have HN := Lib.hid hn
  have HR := Lib.hid hr
  have KG := Lib.hid (fun W (h : Below w.heap.size w W) (hok : okT l = true) => groups_any A l n c W (hr.below h) hn hl hok)
  by_cases h1 : 200 < n
  · have HE := Lib.hid (show trlE l = 4 by unfold trlE; rw [if_pos (by omega)])
    have h1' : (200 : Int) < (n : Int) := by omega
    clear hr hn
    go_enter Try.func38, Try.ntmps38
    go_wp2_with fail
    go_ret
    exact ⟨by rw [HE.out]; rfl, Below.refl _ _⟩
  have HE := Lib.hid (show trlE l = if okT l then (if few l 8 then 0 else 4) else 2 by unfold trlE; rw [if_neg (by omega)])
  have h1' : ¬ (200 : Int) < (n : Int) := by omega
  clear hr hn
  go_enter Try.func38, Try.ntmps38
  go_wp2_with fail
  go_loopg [12] n (fun q u12 wr => ∃ k : Nat, k ≤ n ∧ u12 = .int .i64 (k : Nat) ∧ Hid (k + q = n ∧ okT (l.take k) = true ∧ Own w wr []))
  case atStart => exact ⟨0, Nat.zero_le _, rfl, by omega, rfl, Own.start w⟩
  case round =>
    obtain ⟨k, hk, rfl, hI⟩ := hrel
    have I1 := Lib.hid hI.out.1
    have I3 := Lib.hid hI.out.2.1
    have I2 := Lib.hid hI.out.2.2
    clear hI
    by_cases hlt : k < n
    · have hlt' : k < l.length := by rw [← HN.out]; exact hlt
      obtain ⟨b, off, rfl, hbs, c0, c1, c2⟩ := (HR.out.below I2.out.bel).dbl hlt'
      have HX := Lib.hid (fun h => okT_take hlt' I3.out h)
      have HX2 := Lib.hid (fun h => okT_here hlt' h)
      generalize l[k] = x at *
      obtain ⟨xa, xb, xs⟩ := x
      have hki : (k : Int) < (n : Int) := by omega
      have z1 : IntKind.i64.wrap ((k : Int) + 1) = ((k + 1 : Nat) : Int) := by rw [show (k : Int) + 1 = ((k + 1 : Nat) : Int) by omega]; exact IntWalk.i64_in _ (by omega)
      simp only at c0 c1 c2
      clear hlt' KG
      obtain ⟨B1, hB1⟩ : ∃ B1, B1 = wr.heap.size := ⟨_, rfl⟩
      have I4 := Lib.hid (I2.out.new' 64 #[.int .i64 xa, .int .i64 xb, .bool xs] hB1)
      cases h2 : inB 0 7 xa
      · have HX3 := Lib.hid (HX2.out (show trB ⟨xa, xb, xs⟩ = false by simp [trB, h2]))
        have H2 := Lib.hid h2
        clear HX HX2 h2
        as_aux_lemma =>
        go_upto_region 6 with (fail)
        rw [← hB1]
        clear hB1 c0 c1 c2 hbs I2
        generalize wr.alloc _ = w1 at *
        obtain ⟨e0, e1, e2, ef⟩ := (I4.out.bx 0 rfl).c3
        have el := (I4.out.bx 0 rfl).2.2
        go_wp2_with fail
        refine (from1 0 7 xa _ _ H2.out rfl).mono ?_
        rintro e w2 ⟨rfl, hb2⟩
        have I5 := Lib.hid (I4.out.ext hb2)
        clear hb2 I4
        go_wp2_with fail
        go_ret
        exact ⟨by rw [HE.out, HX3.out]; rfl, I5.out.bel⟩
      · cases h3 : inB 0 1000 xb
        · have HX3 := Lib.hid (HX2.out (show trB ⟨xa, xb, xs⟩ = false by simp [trB, h3]))
          have H2 := Lib.hid h2
          have H3 := Lib.hid h3
          clear HX HX2 h2 h3
          as_aux_lemma =>
          go_upto_region 6 with (fail)
          rw [← hB1]
          clear hB1 c0 c1 c2 hbs I2
          generalize wr.alloc _ = w1 at *
          obtain ⟨e0, e1, e2, ef⟩ := (I4.out.bx 0 rfl).c3
          have el := (I4.out.bx 0 rfl).2.2
          go_wp2_with fail
          refine (from1 0 7 xa _ _ H2.out rfl).mono ?_
          rintro e w2 ⟨rfl, hb2⟩
          have I5 := Lib.hid (I4.out.ext hb2)
          clear hb2 I4 e0 e1 e2 ef el
          obtain ⟨e0, e1, e2, ef⟩ := (I5.out.bx 0 rfl).c3
          have el := (I5.out.bx 0 rfl).2.2
          go_wp2_with fail
          refine (from1 0 1000 xb _ _ H3.out rfl).mono ?_
          rintro e w3 ⟨rfl, hb3⟩
          have I6 := Lib.hid (I5.out.ext hb3)
          clear hb3 I5
          go_wp2_with fail
          go_ret
          exact ⟨by rw [HE.out, HX3.out]; rfl, I6.out.bel⟩
        · have HX3 := Lib.hid (HX.out (show trB ⟨xa, xb, xs⟩ = true by simp [trB, h2, h3]))
          have H2 := Lib.hid h2
          have H3 := Lib.hid h3
          clear HX HX2 h2 h3
          as_aux_lemma =>
          go_upto_region 6 with (fail)
          rw [← hB1]
          clear hB1 c0 c1 c2 hbs I2
          generalize wr.alloc _ = w1 at *
          obtain ⟨e0, e1, e2, ef⟩ := (I4.out.bx 0 rfl).c3
          have el := (I4.out.bx 0 rfl).2.2
          go_wp2_with fail
          refine (from1 0 7 xa _ _ H2.out rfl).mono ?_
          rintro e w2 ⟨rfl, hb2⟩
          have I5 := Lib.hid (I4.out.ext hb2)
          clear hb2 I4 e0 e1 e2 ef el
          obtain ⟨e0, e1, e2, ef⟩ := (I5.out.bx 0 rfl).c3
          have el := (I5.out.bx 0 rfl).2.2
          go_wp2_with fail
          refine (from1 0 1000 xb _ _ H3.out rfl).mono ?_
          rintro e w3 ⟨rfl, hb3⟩
          have I6 := Lib.hid (I5.out.ext hb3)
          clear hb3 I5
          go_wp2_with fail
          go_roundg (gk - 1)
          case measure => have := I1.out; omega
          case rel => exact ⟨k + 1, by omega, rfl, by have := I1.out; omega, HX3.out, I6.out.tail⟩
    · have hni : ¬ (k : Int) < (n : Int) := by omega
      have hok : okT l = true := by have := I3.out; rwa [List.take_of_length_le (by rw [← HN.out]; omega)] at this
      have HOK := Lib.hid hok
      have HE2 := Lib.hid (show trlE l = if few l 8 then 0 else 4 by rw [HE.out, hok]; rfl)
      have K1 := Lib.hid (KG.out wr I2.out.bel hok)
      clear HE hok I3 KG I1
      as_aux_lemma =>
      go_wp2_with fail
      refine K1.out.mono ?_
      rintro e w3 ⟨rfl, hb3, D, hG, hM⟩
      have S3 := Lib.hid (I2.out.ext hb3)
      have HG := Lib.hid hG
      obtain ⟨B, hB⟩ : ∃ B, B = wr.heap.size := ⟨_, rfl⟩
      rw [← hB] at hM ⊢
      have HMP := Lib.hid (groups_map hM)
      clear hb3 hG hM K1 I2 hB
      go_wp2_with (at_range; refine wpList_range_own _ rfl _ 110 rfl 3 36 keyedI Try.underlying110 (gR w3 (B + 1)) B n D rfl HMP.out ?_; intro wB hrg0 hg0 hs0)
      go_frame
      obtain ⟨r, hr⟩ : ∃ r, r = w3.heap.size := ⟨_, rfl⟩
      rw [← hr] at hrg0 ⊢
      have hrw : w.heap.size ≤ r := by rw [hr]; exact S3.out.size
      have HB0 := Lib.hid ((S3.out.ext (below_of_grown hg0)).bel)
      have HR0 := Lib.hid hrg0
      have HRW := Lib.hid hrw
      clear hrg0 hg0 hs0 hr hrw S3 HMP
      go_loopg [6] (Maps.size D) (fun q _ wr => ∃ left : Lit → Bool, Hid (wr.ranges Try.prog 3 (gR w3 (B + 1)) B r n D left q ∧ (∀ g : Int, (Lit.int .i64 g).wf = true → Maps.has D (.int .i64 g) = true → left (.int .i64 g) = false → (dif l g).length ≤ 60) ∧ Below w.heap.size w wr))
      case atStart => exact ⟨_, HR0.out, fun g _ h1 h2 => (by rw [h1] at h2; cases h2), HB0.out⟩
      case round =>
        obtain ⟨left, hJ⟩ := hrel
        have J1 := Lib.hid hJ.out.1
        have J2 := Lib.hid hJ.out.2.1
        have J3 := Lib.hid hJ.out.2.2
        clear hJ HR0 HB0
        go_wp2_with (at_next; refine wpList_next_ranges _ rfl _ rfl 3 keyedI (gR w3 (B + 1)) (Value.int .i64) slV keyInvI (gR_inv w3 (B + 1)) B r n D left gk rfl J1.out ?_ ?_)
        · intro hc0 hl0
          have HF := Lib.hid (show few l 8 = true from few_of fun g hg => by
            have hw : (Lit.int .i64 (g : Int)).wf = true := wf_small (by omega)
            cases hh : Maps.has D (.int .i64 (g : Int))
            · rw [has_of_dif HG.out hw hh]; simp
            · exact J2.out g hw hh (hl0 _))
          clear hc0 hl0 J1 J2
          go_wp2_with fail
          go_ret
          exact ⟨by rw [HE2.out, HF.out]; rfl, J3.out⟩
        · intro x A2 nn cc kl y1 y2 w4 cnt2 hk hlk hRy hat hrg2 hlt hg2 hs2 hen
          obtain ⟨q1, q2, q3, q4⟩ := group_entry (c := (A2, nn, cc)) (y := (y1, y2)) HG.out hk hRy hat
          try simp only [slV] at hen
          try simp only [slV]
          have HRG := Lib.hid hrg2
          have HLT := Lib.hid hlt
          have HB2 := Lib.hid (J3.out.grown hg2 J3.out.size (fun k hk => by injection hk with hk; subst hk; exact HRW.out))
          have Q1 := Lib.hid q1
          have Q2 := Lib.hid q2
          have Q3 := Lib.hid (show nn = (dif l x).length from q3)
          have HLK := Lib.hid hlk
          clear hk hlk hRy hat hrg2 hlt hg2 hs2 q1 q2 q3 q4 J1 J3
          by_cases h60 : 60 < nn
          · as_aux_lemma =>
            have h60' : (60 : Int) < (nn : Int) := by omega
            have HF := Lib.hid (show few l 8 = false by
              have hg := dif_small HOK.out (g := x) (by rw [← Q3.out]; omega)
              obtain ⟨g, rfl⟩ := Int.eq_ofNat_of_zero_le hg.1
              exact few_no (k := g) (by omega) (by rw [← Q3.out]; exact h60))
            go_wp2_with fail
            go_ret
            exact ⟨by rw [HE2.out, HF.out]; rfl, HB2.out⟩
          · as_aux_lemma =>
            have h60' : ¬ (60 : Int) < (nn : Int) := by omega
            go_wp2_with fail
            go_roundg cnt2
            case measure => exact HLT.out
            case rel => exact ⟨fun z => left z && !z.sameKey kl, HRG.out, fun g hw hh h => by
              simp only [Bool.and_eq_false_iff] at h
              rcases h with h | h
              · exact J2.out g hw hh h
              · have e : x = g := by
                  rw [Q1.out] at h
                  by_cases e : x = g
                  · exact e
                  · rw [sameKey_ne (a := .int .i64 g) (b := .int .i64 x) (fun k => e (Lit.int.inj k).2.symm)] at h
                    cases h
                subst e
                rw [← Q3.out]; omega, HB2.out⟩
end Go.Proofs.Ytnalbchggjepdaa
