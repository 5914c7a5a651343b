/- Stable sorting of lists; plain mathematics, no program in sight. No condition. -/
namespace Go.Proofs.Ytnalbchggjepdaa

/-- A strict order of classes: asymmetric, and whatever lies between lies above the one or below the other. -/
structure Swo {α : Type} (lt : α → α → Bool) : Prop where
  asym : ∀ x y, lt x y = true → lt y x = false
  co : ∀ x y z, lt x y = true → lt x z = true ∨ lt z y = true
variable {α : Type} {lt : α → α → Bool}
theorem Swo.irr (h : Swo lt) (x : α) : lt x x = false := by
  cases e : lt x x
  · rfl
  · have := h.asym x x e; rw [e] at this; exact this
theorem Swo.le_trans (h : Swo lt) {x y z : α} (a : lt y x = false) (b : lt z y = false) : lt z x = false := by
  cases e : lt z x
  · rfl
  · rcases h.co z x y e with k | k
    · rw [b] at k; cases k
    · rw [a] at k; cases k
theorem Swo.lt_le (h : Swo lt) {x y z : α} (a : lt x y = true) (b : lt z y = false) : lt x z = true := by
  rcases h.co x y z a with k | k
  · exact k
  · rw [b] at k; cases k
theorem Swo.le_lt (h : Swo lt) {x y z : α} (a : lt y x = false) (b : lt y z = true) : lt x z = true := by
  rcases h.co y z x b with k | k
  · rw [a] at k; cases k
  · exact k
/-- In order: no later one is less. -/
def Srt (lt : α → α → Bool) (l : List α) : Prop := l.Pairwise fun x y => lt y x = false
/-- Of one class. -/
def eqv (lt : α → α → Bool) (x y : α) : Bool := !lt x y && !lt y x
/-- The same elements, each class in the same order. -/
def Stb (lt : α → α → Bool) (l l' : List α) : Prop := l.length = l'.length ∧ ∀ x, l.filter (eqv lt x) = l'.filter (eqv lt x)
theorem Stb.refl (l : List α) : Stb lt l l := ⟨rfl, fun _ => rfl⟩
theorem Stb.trans {a b c : List α} (h : Stb lt a b) (k : Stb lt b c) : Stb lt a c := ⟨h.1.trans k.1, fun x => (h.2 x).trans (k.2 x)⟩
theorem Stb.app {a b c d : List α} (h : Stb lt a b) (k : Stb lt c d) : Stb lt (a ++ c) (b ++ d) :=
  ⟨by rw [List.length_append, List.length_append, h.1, k.1], fun x => by rw [List.filter_append, List.filter_append, h.2, k.2]⟩
theorem eqv_self (h : Swo lt) (x : α) : eqv lt x x = true := by simp [eqv, h.irr]
theorem Stb.mem (h : Swo lt) {l l' : List α} (s : Stb lt l l') {x : α} : x ∈ l ↔ x ∈ l' := by
  have := s.2 x
  constructor
  · intro hx
    have : x ∈ l.filter (eqv lt x) := List.mem_filter.2 ⟨hx, eqv_self h x⟩
    rw [s.2 x] at this
    exact (List.mem_filter.1 this).1
  · intro hx
    have : x ∈ l'.filter (eqv lt x) := List.mem_filter.2 ⟨hx, eqv_self h x⟩
    rw [← s.2 x] at this
    exact (List.mem_filter.1 this).1
/-- Exchanging two parts no two elements of which are of one class. -/
theorem Stb.exch {X Y : List α} (h : ∀ x ∈ X, ∀ y ∈ Y, lt y x = true) (hs : Swo lt) : Stb lt (X ++ Y) (Y ++ X) := by
  refine ⟨by simp [Nat.add_comm], fun z => ?_⟩
  rw [List.filter_append, List.filter_append]
  by_cases hX : X.filter (eqv lt z) = []
  · rw [hX]; simp
  · by_cases hY : Y.filter (eqv lt z) = []
    · rw [hY]; simp
    · obtain ⟨x, hx⟩ := List.exists_mem_of_ne_nil _ hX
      obtain ⟨y, hy⟩ := List.exists_mem_of_ne_nil _ hY
      obtain ⟨x1, x2⟩ := List.mem_filter.1 hx
      obtain ⟨y1, y2⟩ := List.mem_filter.1 hy
      simp only [eqv, Bool.and_eq_true, Bool.not_eq_true'] at x2 y2
      have := h x x1 y y1
      rcases hs.co y x z this with k | k
      · rw [y2.2] at k; cases k
      · rw [x2.1] at k; cases k
theorem srt_unique (hs : Swo lt) : ∀ {a b : List α}, Srt lt a → Srt lt b → (∀ x, a.filter (eqv lt x) = b.filter (eqv lt x)) → a = b
  | [], b, _, _, h => by
    cases b with
    | nil => rfl
    | cons y b => have := h y; rw [List.filter_cons, if_pos (eqv_self hs y)] at this; cases this
  | x :: a, b, ha, hb, h => by
    cases b with
    | nil => have := h x; rw [List.filter_cons, if_pos (eqv_self hs x)] at this; cases this
    | cons y b =>
      have hx : x ∈ y :: b := by
        have : x ∈ (x :: a).filter (eqv lt x) := List.mem_filter.2 ⟨by simp, eqv_self hs x⟩
        rw [h] at this; exact (List.mem_filter.1 this).1
      have hy : y ∈ x :: a := by
        have : y ∈ (y :: b).filter (eqv lt y) := List.mem_filter.2 ⟨by simp, eqv_self hs y⟩
        rw [← h] at this; exact (List.mem_filter.1 this).1
      have a1 : lt y x = false := by
        rcases List.mem_cons.1 hy with e | e
        · rw [e]; exact hs.irr x
        · exact (List.pairwise_cons.1 ha).1 y e
      have a2 : lt x y = false := by
        rcases List.mem_cons.1 hx with e | e
        · rw [e]; exact hs.irr y
        · exact (List.pairwise_cons.1 hb).1 x e
      have e1 : eqv lt x y = true := by simp [eqv, a1, a2]
      have := h x
      rw [List.filter_cons, if_pos (eqv_self hs x), List.filter_cons, if_pos e1] at this
      obtain rfl : x = y := by injection this
      congr 1
      refine srt_unique hs (List.pairwise_cons.1 ha).2 (List.pairwise_cons.1 hb).2 fun z => ?_
      have hz := h z
      rw [List.filter_cons, List.filter_cons] at hz
      by_cases e : eqv lt z x = true
      · rw [if_pos e, if_pos e] at hz; injection hz
      · rw [if_neg e, if_neg e] at hz; exact hz
/-- Insertion sort, the specification. -/
def ins (lt : α → α → Bool) (x : α) : List α → List α
  | [] => [x]
  | y :: l => if lt y x then y :: ins lt x l else x :: y :: l
def isort (lt : α → α → Bool) : List α → List α
  | [] => []
  | x :: l => ins lt x (isort lt l)
theorem ins_mem {x z : α} : ∀ {l : List α}, z ∈ ins lt x l → z = x ∨ z ∈ l
  | [], h => by simpa [ins] using h
  | y :: l, h => by
    unfold ins at h
    split at h
    · rcases List.mem_cons.1 h with e | e
      · exact .inr (by simp [e])
      · rcases ins_mem e with k | k
        · exact .inl k
        · exact .inr (by simp [k])
    · simpa using h
theorem ins_srt (hs : Swo lt) (x : α) : ∀ {l : List α}, Srt lt l → Srt lt (ins lt x l)
  | [], _ => by simp [ins, Srt]
  | y :: l, h => by
    have h2 := List.pairwise_cons.1 h
    unfold ins
    by_cases e : lt y x = true
    · rw [if_pos e]
      refine List.pairwise_cons.2 ⟨fun z hz => ?_, ins_srt hs x h2.2⟩
      rcases ins_mem hz with k | k
      · rw [k]; exact hs.asym _ _ e
      · exact h2.1 z k
    · rw [if_neg e]
      have e' : lt y x = false := by simpa using e
      refine List.pairwise_cons.2 ⟨fun z hz => ?_, h⟩
      rcases List.mem_cons.1 hz with k | k
      · rw [k]; exact e'
      · exact hs.le_trans e' (h2.1 z k)
theorem ins_stb (hs : Swo lt) (x : α) : ∀ (l : List α), Stb lt (x :: l) (ins lt x l)
  | [] => Stb.refl _
  | y :: l => by
    unfold ins
    by_cases e : lt y x = true
    · rw [if_pos e]
      refine Stb.trans (b := y :: x :: l) ?_ ?_
      · exact Stb.app (a := [x, y]) (b := [y, x]) (Stb.exch (X := [x]) (Y := [y]) (by simpa using e) hs) (Stb.refl l)
      · exact Stb.app (a := [y]) (b := [y]) (Stb.refl _) (ins_stb hs x l)
    · rw [if_neg e]; exact Stb.refl _
theorem isort_srt (hs : Swo lt) : ∀ (l : List α), Srt lt (isort lt l)
  | [] => List.Pairwise.nil
  | x :: l => ins_srt hs x (isort_srt hs l)
theorem isort_stb (hs : Swo lt) : ∀ (l : List α), Stb lt l (isort lt l)
  | [] => Stb.refl _
  | x :: l => (Stb.app (a := [x]) (b := [x]) (Stb.refl _) (isort_stb hs l)).trans (ins_stb hs x _)
theorem isort_unique (hs : Swo lt) {l l' : List α} (h : Srt lt l') (k : Stb lt l l') : l' = isort lt l :=
  srt_unique hs h (isort_srt hs l) fun x => (k.2 x).symm.trans ((isort_stb hs l).2 x)

/-- One more put into its place from behind. -/
theorem ins_back (hs : Swo lt) {A1 A2 : List α} {x : α} (h : Srt lt (A1 ++ A2)) (h2 : ∀ y ∈ A2, lt x y = true) (h1 : ∀ y ∈ A1.getLast?, lt x y = false) : Srt lt (A1 ++ x :: A2) := by
  unfold Srt at *
  rw [List.pairwise_append] at h ⊢
  refine ⟨h.1, List.pairwise_cons.2 ⟨fun y hy => hs.asym _ _ (h2 y hy), h.2.1⟩, fun y hy z hz => ?_⟩
  rcases List.mem_cons.1 hz with e | e
  · subst e
    rcases List.eq_nil_or_concat A1 with k | ⟨B, b, k⟩
    · rw [k] at hy; cases hy
    · subst k
      have hb : lt z b = false := h1 b (by simp)
      simp only [List.concat_eq_append, List.mem_append, List.mem_singleton] at hy
      rcases hy with hy | hy
      · have h3 := h.1
        rw [List.concat_eq_append, List.pairwise_append] at h3
        exact hs.le_trans (h3.2.2 y hy b (by simp)) hb
      · rw [hy]; exact hb
  · exact h.2.2 y hy z e
theorem ins_back_stb (hs : Swo lt) {A1 A2 : List α} {x : α} (h2 : ∀ y ∈ A2, lt x y = true) : Stb lt (A1 ++ A2 ++ [x]) (A1 ++ x :: A2) := by
  rw [List.append_assoc]
  exact Stb.app (Stb.refl _) (Stb.exch (X := A2) (Y := [x]) (by intro y hy z hz; simp at hz; subst hz; exact h2 y hy) hs)

theorem srt_last (hs : Swo lt) {X : List α} (h : Srt lt X) {z : α} (hz : z ∈ X.getLast?) {x : α} (hx : x ∈ X) : lt z x = false := by
  rcases List.eq_nil_or_concat X with k | ⟨B, b, k⟩
  · rw [k] at hx; cases hx
  · subst k
    have e : b = z := by simpa using hz
    subst e
    rw [List.concat_eq_append] at h hx
    rcases List.mem_append.1 hx with hx | hx
    · exact (List.pairwise_append.1 h).2.2 x hx b (by simp)
    · rw [List.mem_singleton.1 hx]; exact hs.irr b
theorem srt_head (hs : Swo lt) {X : List α} (h : Srt lt X) {z : α} (hz : z ∈ X.head?) {x : α} (hx : x ∈ X) : lt x z = false := by
  cases X with
  | nil => cases hx
  | cons b X =>
    have e : b = z := by simpa using hz
    subst e
    rcases List.mem_cons.1 hx with e | e
    · rw [e]; exact hs.irr b
    · exact (List.pairwise_cons.1 h).1 x e
theorem last_of {X : List α} {x : α} (h : x ∈ X) : ∃ z, z ∈ X.getLast? := by
  cases e : X.getLast? with
  | none => rw [List.getLast?_eq_none_iff] at e; rw [e] at h; cases h
  | some z => exact ⟨z, rfl⟩
theorem head_of {X : List α} {x : α} (h : x ∈ X) : ∃ z, z ∈ X.head? := by
  cases X with
  | nil => cases h
  | cons b X => exact ⟨b, rfl⟩
/-- One step of a merge by symmetric comparisons. -/
theorem merge_split (hs : Swo lt) {X1 X2 Y1 Y2 S1 S2 : List α} (hX : Srt lt (X1 ++ X2)) (hY : Srt lt (Y1 ++ Y2))
    (h1 : ∀ x ∈ X2.head?, ∀ y ∈ Y1.getLast?, lt y x = true) (h2 : ∀ x ∈ X1.getLast?, ∀ y ∈ Y2.head?, lt y x = false)
    (k1 : Srt lt S1) (k2 : Srt lt S2) (s1 : Stb lt (X1 ++ Y1) S1) (s2 : Stb lt (X2 ++ Y2) S2) :
    Srt lt (S1 ++ S2) ∧ Stb lt ((X1 ++ X2) ++ (Y1 ++ Y2)) (S1 ++ S2) := by
  obtain ⟨x1, x2, x3⟩ := List.pairwise_append.1 hX
  obtain ⟨y1, y2, y3⟩ := List.pairwise_append.1 hY
  have c1 : ∀ x ∈ X2, ∀ y ∈ Y1, lt y x = true := by
    intro x hx y hy
    obtain ⟨hd, hh⟩ := head_of hx
    obtain ⟨la, hl⟩ := last_of hy
    exact hs.lt_le (hs.le_lt (srt_last hs y1 hl hy) (h1 hd hh la hl)) (srt_head hs x2 hh hx)
  have c2 : ∀ x ∈ X1, ∀ y ∈ Y2, lt y x = false := by
    intro x hx y hy
    obtain ⟨hd, hh⟩ := head_of hy
    obtain ⟨la, hl⟩ := last_of hx
    exact hs.le_trans (hs.le_trans (srt_last hs x1 hl hx) (h2 la hl hd hh)) (srt_head hs y2 hh hy)
  refine ⟨List.pairwise_append.2 ⟨k1, k2, fun u hu v hv => ?_⟩, ?_⟩
  · rw [← s1.mem hs] at hu
    rw [← s2.mem hs] at hv
    rcases List.mem_append.1 hu with a | a <;> rcases List.mem_append.1 hv with b | b
    · exact x3 u a v b
    · exact c2 u a v b
    · exact hs.asym _ _ (c1 v b u a)
    · exact y3 u a v b
  · refine Stb.trans (b := (X1 ++ Y1) ++ (X2 ++ Y2)) ?_ (s1.app s2)
    have := Stb.app (Stb.app (Stb.refl X1) (Stb.exch (X := X2) (Y := Y1) c1 hs)) (Stb.refl (lt := lt) Y2)
    simpa [List.append_assoc] using this

/-- In chunks of a length each of which is in order. -/
def Ch (lt : α → α → Bool) (bs : Nat) (l : List α) : Prop := ∀ k, Srt lt ((l.drop (k * bs)).take bs)
theorem ch_all {bs : Nat} {l : List α} (h : Ch lt bs l) (hb : l.length ≤ bs) : Srt lt l := by
  have := h 0
  rwa [Nat.zero_mul, List.drop_zero, List.take_of_length_le hb] at this
theorem ch_drop {bs : Nat} {l : List α} (h : Ch lt bs l) (j : Nat) : Ch lt bs (l.drop (j * bs)) := by
  intro k
  rw [List.drop_drop, ← Nat.add_mul]
  exact h (j + k)
theorem ch_nil {bs : Nat} : Ch lt bs ([] : List α) := fun k => by simp [Srt]
/-- One chunk more. -/
theorem ch_snoc {bs j : Nat} {D S : List α} (h : Ch lt bs D) (hD : D.length = j * bs) (hS : Srt lt S) (hl : S.length ≤ bs) : Ch lt bs (D ++ S) := by
  intro k
  rcases Nat.lt_or_ge k j with hk | hk
  · have h1 : k * bs + bs ≤ D.length := by rw [hD, ← Nat.succ_mul]; exact Nat.mul_le_mul_right _ hk
    rw [List.drop_append_of_le_length (by omega), List.take_append_of_le_length (by rw [List.length_drop]; omega)]
    exact h k
  · have h1 : D.length ≤ k * bs := by rw [hD]; exact Nat.mul_le_mul_right _ hk
    rw [List.drop_append, List.drop_eq_nil_of_le h1, List.nil_append]
    exact (hS.sublist (List.drop_sublist _ _)).sublist (List.take_sublist _ _)
theorem ch_of {bs : Nat} {l : List α} (h : Srt lt l) : Ch lt bs l := fun _ => (h.sublist (List.drop_sublist _ _)).sublist (List.take_sublist _ _)
theorem ch_two {bs : Nat} {R : List α} (h : Ch lt bs R) : Srt lt (R.take bs) ∧ Srt lt ((R.drop bs).take bs) ∧ Ch lt bs (R.drop (2 * bs)) := by
  refine ⟨by simpa using h 0, by simpa using h 1, ch_drop h 2⟩
end Go.Proofs.Ytnalbchggjepdaa
