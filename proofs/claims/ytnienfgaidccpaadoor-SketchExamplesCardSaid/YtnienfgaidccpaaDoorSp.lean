/- Codes: what a sketch leaves, and guesses; plain mathematics, no program in sight. No condition. -/
import Derived.Test.YtnienfgaidccpaaDoorCa
namespace Go.Proofs.YtnienfgaidccpaaDoor

/-- Two strictly ascending lists with the same members are equal. -/
theorem asc_eq : ∀ {l l' : List Nat}, l.Pairwise (· < ·) → l'.Pairwise (· < ·) → (∀ x, x ∈ l ↔ x ∈ l') → l = l'
  | [], [], _, _, _ => rfl
  | [], b :: l', _, _, h => by have := (h b).2 (by simp); simp at this
  | a :: l, [], _, _, h => by have := (h a).1 (by simp); simp at this
  | a :: l, b :: l', h1, h2, h => by
    obtain ⟨a1, a2⟩ := List.pairwise_cons.1 h1
    obtain ⟨b1, b2⟩ := List.pairwise_cons.1 h2
    have hab : a = b := by
      have p := (h a).1 (by simp)
      have q := (h b).2 (by simp)
      rcases List.mem_cons.1 p with p | p
      · exact p
      rcases List.mem_cons.1 q with q | q
      · exact q.symm
      have := a1 b q
      have := b1 a p
      omega
    subst hab
    congr 1
    refine asc_eq a2 b2 fun x => ⟨fun hx => ?_, fun hx => ?_⟩
    · have hl := a1 x hx
      rcases List.mem_cons.1 ((h x).1 (by simp [hx])) with p | p
      · omega
      · exact p
    · have hl := b1 x hx
      rcases List.mem_cons.1 ((h x).2 (by simp [hx])) with p | p
      · omega
      · exact p
theorem asc_of {l : List Nat} (hs : l.Pairwise (· ≤ ·)) (hn : l.Nodup) : l.Pairwise (· < ·) :=
  List.Pairwise.imp₂ (fun _ _ h1 h2 => Nat.lt_of_le_of_ne h1 h2) hs hn
/-- The sorted list. -/
def srtN (l : List Nat) : List Nat := l.mergeSort fun x y => decide (x ≤ y)
theorem srtN_perm (l : List Nat) : (srtN l).Perm l := List.mergeSort_perm l _
theorem srtN_sorted (l : List Nat) : (srtN l).Pairwise (· ≤ ·) :=
  (List.pairwise_mergeSort (fun a b c h1 h2 => by simp only [decide_eq_true_eq] at *; omega) (fun a b => by simp only [Bool.or_eq_true, decide_eq_true_eq]; omega) l).imp fun h => by simpa using h
theorem srtN_len (l : List Nat) : (srtN l).length = l.length := (srtN_perm l).length_eq
theorem srtN_mem {l : List Nat} {x : Nat} : x ∈ srtN l ↔ x ∈ l := (srtN_perm l).mem_iff
theorem srtN_nodup {l : List Nat} : (srtN l).Nodup ↔ l.Nodup := (srtN_perm l).nodup_iff

/-- The words that a sketch leaves, by the messages. -/
def lefX (c : Kd) (s n : Nat) : List Nat := (List.range n).map fun m => c.code m ^^^ s
/-- The words that a sketch leaves, by the words. -/
def lefF (c : Kd) (s n : Nat) : List Nat := (List.range n).filter fun w => c.rest w == s
theorem lefX_succ (c : Kd) (s n : Nat) : lefX c s (n + 1) = lefX c s n ++ [c.code n ^^^ s] := by simp [lefX, List.range_succ]
theorem lefX_len (c : Kd) (s n : Nat) : (lefX c s n).length = n := by simp [lefX]
theorem lefF_zero (c : Kd) (s : Nat) : lefF c s 0 = [] := rfl
theorem lefF_yes {c : Kd} {s n : Nat} (h : c.rest n = s) : lefF c s (n + 1) = lefF c s n ++ [n] := by simp [lefF, List.range_succ, List.filter_append, h]
theorem lefF_no {c : Kd} {s n : Nat} (h : ¬ c.rest n = s) : lefF c s (n + 1) = lefF c s n := by simp [lefF, List.range_succ, List.filter_append, h]
theorem lefF_len (c : Kd) (s n : Nat) : (lefF c s n).length ≤ n := by
  have := List.length_filter_le (fun w => c.rest w == s) (List.range n)
  rw [List.length_range] at this
  exact this
theorem lefF_mem {c : Kd} {s n w : Nat} : w ∈ lefF c s n ↔ w < n ∧ c.rest w = s := by simp [lefF]
theorem lefF_asc (c : Kd) (s n : Nat) : (lefF c s n).Pairwise (· < ·) := List.Pairwise.filter _ List.pairwise_lt_range
theorem lefX_mem {c : Kd} (h : c.ok) {s w : Nat} (hs : s < 2 ^ c.f) : w ∈ lefX c s (2 ^ c.k) ↔ w < 2 ^ 15 ∧ c.rest w = s := by
  have hs15 : s < 2 ^ 15 := Nat.lt_of_lt_of_le hs (pow_f_le h)
  constructor
  · intro hw
    simp only [lefX, List.mem_map, List.mem_range] at hw
    obtain ⟨m, hm, rfl⟩ := hw
    exact ⟨Nat.xor_lt_two_pow (Kd.code_lt h hm) hs15, by rw [Kd.rest_xor, Kd.rest_code h hm, Kd.rest_small hs, Nat.zero_xor]⟩
  · rintro ⟨hw, hr⟩
    have hx : w ^^^ s < 2 ^ 15 := Nat.xor_lt_two_pow hw hs15
    simp only [lefX, List.mem_map, List.mem_range]
    refine ⟨(w ^^^ s) >>> c.f, shr_lt h hx, ?_⟩
    rw [Kd.of_rest_zero h hx (by rw [Kd.rest_xor, hr, Kd.rest_small hs, xor_self]), xor_xor]
theorem lefX_nodup {c : Kd} (h : c.ok) (s : Nat) : (lefX c s (2 ^ c.k)).Nodup := by
  unfold lefX
  refine List.pairwise_map.2 (List.Pairwise.imp_of_mem (fun {a b} ha hb hab e => ?_) List.pairwise_lt_range)
  have ha := List.mem_range.1 ha
  have hb := List.mem_range.1 hb
  have e1 : c.code a = c.code b := by rw [← xor_xor (c.code a) s, e, xor_xor]
  have e2 := Kd.code_top h ha
  rw [e1, Kd.code_top h hb] at e2
  omega
/-- Both ways give the same words. -/
theorem left_eq {c : Kd} (h : c.ok) {s : Nat} (hs : s < 2 ^ c.f) : srtN (lefX c s (2 ^ c.k)) = lefF c s 32768 :=
  asc_eq (asc_of (srtN_sorted _) (srtN_nodup.2 (lefX_nodup h s))) (lefF_asc _ _ _) fun x => by rw [srtN_mem, lefX_mem h hs, lefF_mem]
theorem left_len {c : Kd} (h : c.ok) {s : Nat} (hs : s < 2 ^ c.f) : (lefF c s 32768).length = 2 ^ c.k := by
  rw [← left_eq h hs, srtN_len, lefX_len]

/-- The different ones, in the order of their first places. -/
def dst (l : List Nat) : List Nat := l.foldl (fun d x => if x ∈ d then d else d ++ [x]) []
theorem dst_snoc (l : List Nat) (x : Nat) : dst (l ++ [x]) = if x ∈ dst l then dst l else dst l ++ [x] := by
  unfold dst
  rw [List.foldl_append]
  rfl
theorem dst_all : ∀ (l d : List Nat), d.Nodup → (l.foldl (fun d x => if x ∈ d then d else d ++ [x]) d).Nodup ∧ (∀ x, x ∈ l.foldl (fun d x => if x ∈ d then d else d ++ [x]) d ↔ x ∈ d ∨ x ∈ l) ∧ (l.foldl (fun d x => if x ∈ d then d else d ++ [x]) d).length ≤ d.length + l.length
  | [], d, h => ⟨h, fun x => by simp, by simp⟩
  | a :: l, d, h => by
    rw [List.foldl_cons]
    by_cases ha : a ∈ d
    · rw [if_pos ha]
      obtain ⟨h1, h2, h3⟩ := dst_all l d h
      refine ⟨h1, fun x => ?_, by rw [List.length_cons]; omega⟩
      rw [h2 x, List.mem_cons]
      constructor
      · rintro (k | k)
        · exact .inl k
        · exact .inr (.inr k)
      · rintro (k | k | k)
        · exact .inl k
        · subst k; exact .inl ha
        · exact .inr k
    · rw [if_neg ha]
      have hd : (d ++ [a]).Nodup := List.nodup_append.2 ⟨h, by simp, fun x hx y hy e => by rw [List.mem_singleton] at hy; subst hy; subst e; exact ha hx⟩
      obtain ⟨h1, h2, h3⟩ := dst_all l (d ++ [a]) hd
      refine ⟨h1, fun x => ?_, by rw [List.length_append, List.length_singleton] at h3; rw [List.length_cons]; omega⟩
      rw [h2 x, List.mem_append, List.mem_singleton, List.mem_cons, or_assoc]
theorem dst_nodup (l : List Nat) : (dst l).Nodup := (dst_all l [] List.nodup_nil).1
theorem dst_mem {l : List Nat} {x : Nat} : x ∈ dst l ↔ x ∈ l := by rw [dst, (dst_all l [] List.nodup_nil).2.1 x]; simp
theorem dst_len (l : List Nat) : (dst l).length ≤ l.length := by have := (dst_all l [] List.nodup_nil).2.2; rw [List.length_nil, Nat.zero_add] at this; exact this
theorem nodup_len : ∀ (n : Nat) (l : List Nat), l.Nodup → (∀ x ∈ l, x < n) → l.length ≤ n
  | 0, l, _, hb => by
    cases l with
    | nil => simp
    | cons a l => exact absurd (hb a (by simp)) (Nat.not_lt_zero _)
  | n + 1, l, h, hb => by
    have ih := nodup_len n (l.erase n) (h.erase n) fun x hx => by
      have h1 := hb x (List.mem_of_mem_erase hx)
      have h2 : x ≠ n := fun e => by subst e; exact (List.Nodup.not_mem_erase h) hx
      omega
    by_cases hn : n ∈ l
    · rw [List.length_erase_of_mem hn] at ih
      omega
    · rw [List.erase_of_not_mem hn] at ih
      omega

/-- Whether these are words that are not equal. -/
def gueB (l : List Nat) : Bool := l.all (fun w => decide (w < 32768)) && decide l.Nodup
/-- A guess: without, and with the sketches, and the error's number. -/
def gueF (ok : Bool) (c : Kd) (l : List Nat) : Int × Nat × Int :=
  if ok = false then (0, 0, 2) else if l.length < 1 ∨ 100 < l.length then (0, 0, 4) else if gueB l = true then (1, (dst (l.map c.rest)).length, 0) else (0, 0, 2)
theorem gueB_srt {l : List Nat} : gueB l = ((srtN l).all (fun w => decide (w < 32768)) && decide (srtN l).Nodup) := by
  unfold gueB
  congr 1
  · rw [Bool.eq_iff_iff, List.all_eq_true, List.all_eq_true]
    exact ⟨fun h x hx => h x (srtN_mem.1 hx), fun h x hx => h x (srtN_mem.2 hx)⟩
  · exact decide_eq_decide.2 srtN_nodup.symm
theorem all_last {l : List Nat} (hs : l.Pairwise (· ≤ ·)) {z : Nat} {l' : List Nat} (h : l = l' ++ [z]) : l.all (fun w => decide (w < 32768)) = decide (z < 32768) := by
  subst h
  rw [Bool.eq_iff_iff, List.all_eq_true, decide_eq_true_eq]
  constructor
  · intro h
    simpa using h z (by simp)
  · intro h x hx
    rw [decide_eq_true_eq]
    rcases List.mem_append.1 hx with k | k
    · have := (List.pairwise_append.1 hs).2.2 x k z (by simp)
      omega
    · rw [List.mem_singleton] at k
      omega
/-- Whether two neighbours are equal, from place i on. -/
def adjB : List Nat → Bool
  | a :: b :: l => decide (a = b) || adjB (b :: l)
  | _ => false
theorem adj_nodup : ∀ {l : List Nat}, l.Pairwise (· ≤ ·) → (adjB l = true ↔ ¬ l.Nodup)
  | [], _ => by simp [adjB]
  | [a], _ => by simp [adjB]
  | a :: b :: l, h => by
    obtain ⟨h1, h2⟩ := List.pairwise_cons.1 h
    have ih := adj_nodup h2
    rw [adjB, Bool.or_eq_true, decide_eq_true_eq, ih, List.nodup_cons (a := a), List.mem_cons]
    by_cases e : a = b
    · simp [e]
    · have hb : a ∉ l := fun hm => by
        have := h1 b (by simp)
        have := (List.pairwise_cons.1 h2).1 a hm
        omega
      simp [e, hb]
end Go.Proofs.YtnienfgaidccpaaDoor
