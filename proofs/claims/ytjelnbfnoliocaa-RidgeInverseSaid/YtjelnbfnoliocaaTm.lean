/- Ridge: samples and devices whose values are moved, or with light and dark exchanged. Plain. No condition. -/
import Derived.Test.YtjelnbfnoliocaaTk
namespace Go.Proofs.Ytjelnbfnoliocaa

/-- The first k values of a list, each turned. -/
def mp (f : Int → Int) (l : List Int) (k : Nat) : List Int := (l.take k).map f
theorem mp_succ {f : Int → Int} {l : List Int} {k : Nat} (h : k < l.length) : mp f l (k + 1) = mp f l k ++ [f l[k]] := by
  unfold mp
  rw [List.take_add_one, List.getElem?_eq_getElem h, List.map_append]
  rfl
theorem mp_len {f : Int → Int} {l : List Int} {k : Nat} (h : k ≤ l.length) : (mp f l k).length = k := by simp [mp, h]
theorem mp_all {f : Int → Int} {l : List Int} {k : Nat} (h : k = l.length) : mp f l k = l.map f := by subst h; simp [mp]
def upB (b x : Int) : Int := IntKind.u8.wrap (x + b)
def opB (x : Int) : Int := IntKind.u8.wrap (255 - x)
theorem u8wrap (x : Int) : IntKind.u8.wrap x = x % 256 := by
  have h : IntKind.u8.wrap x = x % (2 : Int) ^ 8 := by rfl
  rw [h]; rfl
theorem u8wrap_in (x : Int) : 0 ≤ IntKind.u8.wrap x ∧ IntKind.u8.wrap x ≤ 255 := by rw [u8wrap]; omega
theorem mp_up_u8 (b : Int) (l : List Int) (k : Nat) : U8 (mp (upB b) l k) := by
  intro x hx
  obtain ⟨y, _, rfl⟩ := List.mem_map.1 hx
  exact u8wrap_in _
theorem mp_op_u8 (l : List Int) (k : Nat) : U8 (mp opB l k) := by
  intro x hx
  obtain ⟨y, _, rfl⟩ := List.mem_map.1 hx
  exact u8wrap_in _
/-- All sums stay below 256. -/
def fitB (b : Int) (pix light : List Int) (k : Nat) : Bool := ((pix.take k).all fun v => decide (v + b < 256)) && ((light.take k).all fun v => decide (v + b < 256))
theorem fitB_zero (b : Int) (p l : List Int) : fitB b p l 0 = true := by simp [fitB]
theorem fitB_succ {b : Int} {p l : List Int} {k : Nat} (h : k < p.length) (h' : k < l.length) : fitB b p l (k + 1) = ((fitB b p l k && decide (p[k] + b < 256)) && decide (l[k] + b < 256)) := by
  unfold fitB
  rw [List.take_add_one, List.getElem?_eq_getElem h, List.take_add_one, List.getElem?_eq_getElem h']
  simp only [Option.toList_some, List.all_append, List.all_cons, List.all_nil, Bool.and_true]
  cases (p.take k).all fun v => decide (v + b < 256) <;> cases (l.take k).all fun v => decide (v + b < 256) <;> cases decide (p[k] + b < 256) <;> cases decide (l[k] + b < 256) <;> rfl
theorem offs_up {b : Int} (hb : 0 ≤ b) : ∀ (p d l : List Int), d.length = p.length → l.length = p.length → U8 p → U8 d → U8 l → lessB d l = true → (∀ v ∈ p, v + b < 256) → (∀ v ∈ l, v + b < 256) →
    offs (p.map (upB b)) (d.map (upB b)) (l.map (upB b)) = offs p d l ∧ lessB (d.map (upB b)) (l.map (upB b)) = true := by
  intro p
  induction p with
  | nil =>
    intro d l hd hl _ _ _ _ _ _
    obtain rfl := List.eq_nil_of_length_eq_zero hd
    obtain rfl := List.eq_nil_of_length_eq_zero hl
    exact ⟨rfl, rfl⟩
  | cons v p ih =>
    intro d l hd hl h0 h1 h2 hls hp hq
    cases d with
    | nil => simp at hd
    | cons x d =>
      cases l with
      | nil => simp at hl
      | cons y l =>
        simp only [lessB, Bool.and_eq_true, decide_eq_true_eq] at hls
        obtain ⟨e1, e2⟩ := ih d l (by simpa using hd) (by simpa using hl) (fun a h => h0 a (by simp [h])) (fun a h => h1 a (by simp [h])) (fun a h => h2 a (by simp [h])) hls.2 (fun a h => hp a (by simp [h])) (fun a h => hq a (by simp [h]))
        have a1 := h0 v (by simp)
        have a2 := h1 x (by simp)
        have a3 := h2 y (by simp)
        have b1 := hp v (by simp)
        have b2 := hq y (by simp)
        have w1 : upB b v = v + b := by unfold upB; rw [u8wrap]; omega
        have w2 : upB b x = x + b := by unfold upB; rw [u8wrap]; omega
        have w3 : upB b y = y + b := by unfold upB; rw [u8wrap]; omega
        simp only [List.map_cons, offs, lessB, e1, e2, w1, w2, w3, Bool.and_true, decide_eq_true_eq, List.cons.injEq, and_true]
        unfold off1
        exact ⟨by omega, by omega⟩
theorem offs_op : ∀ (p d l : List Int), d.length = p.length → l.length = p.length → U8 p → U8 d → U8 l → lessB d l = true →
    offs (p.map opB) (l.map opB) (d.map opB) = (offs p d l).map (fun v => -v) ∧ lessB (l.map opB) (d.map opB) = true := by
  intro p
  induction p with
  | nil =>
    intro d l hd hl _ _ _ _
    obtain rfl := List.eq_nil_of_length_eq_zero hd
    obtain rfl := List.eq_nil_of_length_eq_zero hl
    exact ⟨rfl, rfl⟩
  | cons v p ih =>
    intro d l hd hl h0 h1 h2 hls
    cases d with
    | nil => simp at hd
    | cons x d =>
      cases l with
      | nil => simp at hl
      | cons y l =>
        simp only [lessB, Bool.and_eq_true, decide_eq_true_eq] at hls
        obtain ⟨e1, e2⟩ := ih d l (by simpa using hd) (by simpa using hl) (fun a h => h0 a (by simp [h])) (fun a h => h1 a (by simp [h])) (fun a h => h2 a (by simp [h])) hls.2
        have a1 := h0 v (by simp)
        have a2 := h1 x (by simp)
        have a3 := h2 y (by simp)
        have w1 : opB v = 255 - v := by unfold opB; rw [u8wrap]; omega
        have w2 : opB x = 255 - x := by unfold opB; rw [u8wrap]; omega
        have w3 : opB y = 255 - y := by unfold opB; rw [u8wrap]; omega
        simp only [List.map_cons, offs, lessB, e1, e2, w1, w2, w3, Bool.and_true, decide_eq_true_eq, List.cons.injEq, and_true]
        unfold off1
        exact ⟨by omega, by omega⟩
theorem device_map {W H : Int} {d l d' l' : List Int} (h : deviceB W H d l = true) (e1 : d'.length = d.length) (e2 : l'.length = l.length) (k : lessB d' l' = true) : deviceB W H d' l' = true := by
  unfold deviceB at h ⊢
  rw [e1, e2, k]
  simp only [Bool.and_eq_true] at h
  rw [h.1]; rfl
theorem device_less {W H : Int} {d l : List Int} (h : deviceB W H d l = true) : lessB d l = true := by
  unfold deviceB at h
  simp only [Bool.and_eq_true] at h
  exact h.2
theorem seen_map {W H W' H' : Int} {np : Nat} {d l d' l' : List Int} (h : seenF W H np W' H' d l = 0) (k : deviceB W' H' d' l' = true) : seenF W H np W' H' d' l' = 0 := by
  obtain ⟨_, _, _, _, h5, h6, rfl, rfl⟩ := seen_len h
  simp [seenF, h5, k]
/-- Moved samples: the same offsets, and the device is valid. -/
theorem moved_ok {W H W' H' b : Int} {np : Nat} {p d l : List Int} (h : seenF W H np W' H' d l = 0) (hp : p.length = np) (hb : 0 ≤ b) (h0 : U8 p) (h1 : U8 d) (h2 : U8 l) (hf : fitB b p l np = true) :
    offs (mp (upB b) p np) (mp (upB b) d np) (mp (upB b) l np) = offs p d l ∧ seenF W H np W' H' (mp (upB b) d np) (mp (upB b) l np) = 0 := by
  obtain ⟨e1, e2, _, _, _, h6, _, _⟩ := seen_len h
  have hls := device_less h6
  rw [mp_all hp.symm, mp_all e1.symm, mp_all e2.symm]
  unfold fitB at hf
  rw [List.take_of_length_le (by omega), List.take_of_length_le (by omega)] at hf
  simp only [Bool.and_eq_true, List.all_eq_true, decide_eq_true_eq] at hf
  obtain ⟨k1, k2⟩ := offs_up hb p d l (by omega) (by omega) h0 h1 h2 hls hf.1 hf.2
  exact ⟨k1, seen_map h (device_map h6 (by simp) (by simp) k2)⟩
/-- Light and dark exchanged: the offsets change their signs, and the device is valid. -/
theorem turned_ok {W H W' H' : Int} {np : Nat} {p d l : List Int} (h : seenF W H np W' H' d l = 0) (hp : p.length = np) (h0 : U8 p) (h1 : U8 d) (h2 : U8 l) :
    offs (mp opB p np) (mp opB l np) (mp opB d np) = (offs p d l).map (fun v => -v) ∧ seenF W H np W' H' (mp opB l np) (mp opB d np) = 0 := by
  obtain ⟨e1, e2, _, _, _, h6, _, _⟩ := seen_len h
  have hls := device_less h6
  rw [mp_all hp.symm, mp_all e1.symm, mp_all e2.symm]
  obtain ⟨k1, k2⟩ := offs_op p d l (by omega) (by omega) h0 h1 h2 hls
  exact ⟨k1, seen_map h (device_map h6 (by simp; omega) (by simp; omega) k2)⟩
/-- What is ridge in the one or the other is sure. -/
theorem turned_key {o : List Int} {i : Nat} {a c s : Bool} (ha : (neg o)[i]? = some a) (hc : (neg (o.map fun v => -v))[i]? = some c) (hs : (sures 0 o)[i]? = some s) : s = (a || c) ∧ (a && c) = false := by
  unfold neg at ha hc
  unfold sures at hs
  rw [List.getElem?_map] at ha hs hc
  rw [List.getElem?_map] at hc
  cases hl : o[i]? with
  | none => rw [hl] at ha; cases ha
  | some v =>
    rw [hl] at ha hs hc
    injection ha with ha
    injection hc with hc
    injection hs with hs
    subst ha; subst hc; subst hs
    unfold sure1
    dsimp only
    by_cases h1 : v < 0
    · rw [decide_eq_true h1, decide_eq_false (show ¬ -v < 0 by omega), decide_eq_false (show ¬ 2 * 0 < v by omega), decide_eq_true (show v < -(2 * 0) by omega)]; exact ⟨rfl, rfl⟩
    · by_cases h2 : 0 < v
      · rw [decide_eq_false h1, decide_eq_true (show -v < 0 by omega), decide_eq_true (show 2 * 0 < v by omega), decide_eq_false (show ¬ v < -(2 * 0) by omega)]; exact ⟨rfl, rfl⟩
      · rw [decide_eq_false h1, decide_eq_false (show ¬ -v < 0 by omega), decide_eq_false (show ¬ 2 * 0 < v by omega), decide_eq_false (show ¬ v < -(2 * 0) by omega)]; exact ⟨rfl, rfl⟩
end Go.Proofs.Ytjelnbfnoliocaa
