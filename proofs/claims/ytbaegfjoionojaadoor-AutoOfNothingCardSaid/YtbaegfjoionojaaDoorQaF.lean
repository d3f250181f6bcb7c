/- Chapter 13, plain: the rows of what may stand behind each place. -/
import Derived.Test.YtbaegfjoionojaaDoorQaE
set_option linter.unusedVariables false
set_option linter.unusedSimpArgs false
namespace Go.Proofs.YtbaegfjoionojaaDoor.Qa
open Go

/-! ### rows of what may stand behind a place -/
def addTo (bh : List (List Nat)) (f t : List Nat) : List (List Nat) := f.foldl (fun bh n => bh.set n (bh.getD n [] ++ t)) bh
theorem addTo_length (t : List Nat) : ∀ (f : List Nat) (bh : List (List Nat)), (addTo bh f t).length = bh.length
  | [], bh => rfl
  | n :: f, bh => by
    have := addTo_length t f (bh.set n (bh.getD n [] ++ t))
    simpa [addTo] using this
theorem getD_set {α : Type} (l : List α) (n i : Nat) (a d : α) (h : n < l.length) : (l.set n a).getD i d = if i = n then a else l.getD i d := by
  by_cases c : i = n
  · subst c; rw [if_pos rfl]; simp [h]
  · rw [if_neg c]; simp [List.getElem?_set, show ¬ n = i from fun e => c e.symm]
theorem addTo_mem (t : List Nat) (i j : Nat) : ∀ (f : List Nat) (bh : List (List Nat)), (∀ n ∈ f, n < bh.length) → (j ∈ (addTo bh f t).getD i [] ↔ j ∈ bh.getD i [] ∨ (i ∈ f ∧ j ∈ t))
  | [], bh, _ => by simp [addTo]
  | n :: f, bh, h => by
    have h1 := addTo_mem t i j f (bh.set n (bh.getD n [] ++ t)) (fun m hm => by rw [List.length_set]; exact h m (List.mem_cons_of_mem _ hm))
    show j ∈ (addTo (bh.set n (bh.getD n [] ++ t)) f t).getD i [] ↔ _
    rw [h1, getD_set _ _ _ _ _ (h n List.mem_cons_self)]
    by_cases c : i = n
    · subst c; rw [if_pos rfl, List.mem_append]; simp only [List.mem_cons, true_or, true_and]
      constructor
      · rintro ((h | h) | ⟨_, h⟩)
        · exact Or.inl h
        · exact Or.inr h
        · exact Or.inr h
      · rintro (h | h)
        · exact Or.inl (Or.inl h)
        · exact Or.inl (Or.inr h)
    · rw [if_neg c]; simp only [List.mem_cons, c, false_or]
theorem addTo_len (t : List Nat) (i : Nat) : ∀ (f : List Nat) (bh : List (List Nat)), ((addTo bh f t).getD i []).length ≤ (bh.getD i []).length + f.length * t.length
  | [], bh => by simp [addTo]
  | n :: f, bh => by
    have h1 := addTo_len t i f (bh.set n (bh.getD n [] ++ t))
    show ((addTo (bh.set n (bh.getD n [] ++ t)) f t).getD i []).length ≤ _
    have h2 : ((bh.set n (bh.getD n [] ++ t)).getD i []).length ≤ (bh.getD i []).length + t.length := by
      by_cases hl : n < bh.length
      · rw [getD_set _ _ _ _ _ hl]
        split
        · rename_i e; subst e; rw [List.length_append]; exact Nat.le_refl _
        · omega
      · rw [List.set_eq_of_length_le (by omega)]; omega
    rw [List.length_cons, Nat.add_mul]
    omega
theorem addTo_take {f : List Nat} {i n : Nat} (h : f[i]? = some n) (bh : List (List Nat)) (t : List Nat) : addTo bh (f.take (i + 1)) t = (addTo bh (f.take i) t).set n ((addTo bh (f.take i) t).getD n [] ++ t) := by
  obtain ⟨hi, e⟩ := List.getElem?_eq_some_iff.1 h
  unfold addTo
  rw [List.take_succ_eq_append_getElem hi, e, List.foldl_append]; rfl
/-- The rows behind the places, those of e having been laid. -/
def Lx.bf : Lx → Nat → List (List Nat) → List (List Nat)
  | .leaf _, _, bh => bh ++ [[]]
  | .seq r s, k, bh => addTo (s.bf (k + r.n) (r.bf k bh)) (r.la k) (s.fi (k + r.n))
  | .alt r s, k, bh => s.bf (k + r.n) (r.bf k bh)
  | .star r, k, bh => addTo (r.bf k bh) (r.la k) (r.fi k)
  | .plus r, k, bh => addTo (r.bf k bh) (r.la k) (r.fi k)
  | .maybe r, k, bh => r.bf k bh
theorem Lx.bf_length : ∀ (e : Lx) (k : Nat) (bh : List (List Nat)), (e.bf k bh).length = bh.length + e.n
  | .leaf _, k, bh => by simp [Lx.bf, Lx.n, Lx.lv]
  | .seq r s, k, bh => by simp only [Lx.bf, addTo_length, s.bf_length, r.bf_length, Lx.n_seq]; omega
  | .alt r s, k, bh => by simp only [Lx.bf, s.bf_length, r.bf_length, Lx.n_alt]; omega
  | .star r, k, bh => by simp only [Lx.bf, addTo_length, r.bf_length, Lx.n_star]
  | .plus r, k, bh => by simp only [Lx.bf, addTo_length, r.bf_length, Lx.n_plus]
  | .maybe r, k, bh => by simp only [Lx.bf, r.bf_length, Lx.n_maybe]
theorem Lx.bf_mem (i j : Nat) : ∀ (e : Lx) (k : Nat) (bh : List (List Nat)), bh.length = k + 1 → (j ∈ (e.bf k bh).getD i [] ↔ j ∈ bh.getD i [] ∨ e.fo k i j)
  | .leaf _, k, bh, h => by
    simp only [Lx.bf, Lx.fo, or_false]
    rcases Nat.lt_trichotomy i bh.length with c | c | c
    · simp [List.getElem?_append_left c]
    · subst c; simp
    · simp [List.getElem?_eq_none (show (bh ++ [[]]).length ≤ i by simp; omega), List.getElem?_eq_none (show bh.length ≤ i by omega)]
  | .seq r s, k, bh, h => by
    have h1 := r.bf_mem i j k bh h
    have h2 := s.bf_mem i j (k + r.n) (r.bf k bh) (by rw [r.bf_length]; omega)
    have h3 := addTo_mem (s.fi (k + r.n)) i j (r.la k) (s.bf (k + r.n) (r.bf k bh)) (fun n hn => by
      have := r.la_in k n hn
      rw [s.bf_length, r.bf_length]; unfold In at this; omega)
    show j ∈ (addTo _ _ _).getD i [] ↔ _
    rw [h3, h2, h1]
    simp only [Lx.fo, or_assoc]
  | .alt r s, k, bh, h => by
    have h1 := r.bf_mem i j k bh h
    have h2 := s.bf_mem i j (k + r.n) (r.bf k bh) (by rw [r.bf_length]; omega)
    show j ∈ (s.bf _ _).getD i [] ↔ _
    rw [h2, h1]
    simp only [Lx.fo, or_assoc]
  | .star r, k, bh, h => by
    have h1 := r.bf_mem i j k bh h
    have h3 := addTo_mem (r.fi k) i j (r.la k) (r.bf k bh) (fun n hn => by
      have := r.la_in k n hn
      rw [r.bf_length]; unfold In at this; omega)
    show j ∈ (addTo _ _ _).getD i [] ↔ _
    rw [h3, h1]
    simp only [Lx.fo, or_assoc]
  | .plus r, k, bh, h => by
    have h1 := r.bf_mem i j k bh h
    have h3 := addTo_mem (r.fi k) i j (r.la k) (r.bf k bh) (fun n hn => by
      have := r.la_in k n hn
      rw [r.bf_length]; unfold In at this; omega)
    show j ∈ (addTo _ _ _).getD i [] ↔ _
    rw [h3, h1]
    simp only [Lx.fo, or_assoc]
  | .maybe r, k, bh, h => r.bf_mem i j k bh h
def Lx.sz : Lx → Nat
  | .leaf _ => 1
  | .seq r s => r.sz + s.sz + 1
  | .alt r s => r.sz + s.sz + 1
  | .star r => r.sz + 1
  | .plus r => r.sz + 1
  | .maybe r => r.sz + 1
theorem Lx.n_sz : ∀ e : Lx, e.n ≤ e.sz
  | .leaf _ => Nat.le_refl _
  | .seq r s => by have := r.n_sz; have := s.n_sz; simp only [Lx.n_seq, Lx.sz]; omega
  | .alt r s => by have := r.n_sz; have := s.n_sz; simp only [Lx.n_alt, Lx.sz]; omega
  | .star r => by have := r.n_sz; simp only [Lx.n_star, Lx.sz]; omega
  | .plus r => by have := r.n_sz; simp only [Lx.n_plus, Lx.sz]; omega
  | .maybe r => by have := r.n_sz; simp only [Lx.n_maybe, Lx.sz]; omega
theorem Lx.fi_len : ∀ (e : Lx) (k : Nat), (e.fi k).length ≤ e.n ∧ 0 < (e.fi k).length
  | .leaf _, k => ⟨Nat.le_refl _, Nat.one_pos⟩
  | .seq r s, k => by
    have h1 := r.fi_len k
    have h2 := s.fi_len (k + r.n)
    rw [Lx.n_seq]; unfold Lx.fi
    split
    · rw [List.length_append]; omega
    · omega
  | .alt r s, k => by
    have h1 := r.fi_len k
    have h2 := s.fi_len (k + r.n)
    rw [Lx.n_alt]; unfold Lx.fi
    rw [List.length_append]; omega
  | .star r, k => r.fi_len k
  | .plus r, k => r.fi_len k
  | .maybe r, k => r.fi_len k
theorem Lx.la_len : ∀ (e : Lx) (k : Nat), (e.la k).length ≤ e.n ∧ 0 < (e.la k).length
  | .leaf _, k => ⟨Nat.le_refl _, Nat.one_pos⟩
  | .seq r s, k => by
    have h1 := r.la_len k
    have h2 := s.la_len (k + r.n)
    rw [Lx.n_seq]; unfold Lx.la
    split
    · rw [List.length_append]; omega
    · omega
  | .alt r s, k => by
    have h1 := r.la_len k
    have h2 := s.la_len (k + r.n)
    rw [Lx.n_alt]; unfold Lx.la
    rw [List.length_append]; omega
  | .star r, k => r.la_len k
  | .plus r, k => r.la_len k
  | .maybe r, k => r.la_len k
theorem mul_900 {a b : Nat} (ha : a ≤ 30) (hb : b ≤ 30) : a * b ≤ 900 := Nat.mul_le_mul ha hb
theorem Lx.bf_len (i : Nat) : ∀ (e : Lx) (k : Nat) (bh : List (List Nat)), e.sz ≤ 30 → ((e.bf k bh).getD i []).length ≤ (bh.getD i []).length + 900 * e.sz
  | .leaf _, k, bh, _ => by
    simp only [Lx.bf, Lx.sz]
    rcases Nat.lt_trichotomy i bh.length with c | c | c
    · simp [List.getElem?_append_left c]
    · subst c; simp
    · simp [List.getElem?_eq_none (show (bh ++ [[]]).length ≤ i by simp; omega)]
  | .seq r s, k, bh, h => by
    simp only [Lx.sz] at h ⊢
    have h1 := r.bf_len i k bh (by omega)
    have h2 := s.bf_len i (k + r.n) (r.bf k bh) (by omega)
    have h3 := addTo_len (s.fi (k + r.n)) i (r.la k) (s.bf (k + r.n) (r.bf k bh))
    have h4 := mul_900 (a := (r.la k).length) (b := (s.fi (k + r.n)).length) (by have := (r.la_len k).1; have := r.n_sz; omega) (by have := (s.fi_len (k + r.n)).1; have := s.n_sz; omega)
    show ((addTo _ _ _).getD i []).length ≤ _
    omega
  | .alt r s, k, bh, h => by
    simp only [Lx.sz] at h ⊢
    have h1 := r.bf_len i k bh (by omega)
    have h2 := s.bf_len i (k + r.n) (r.bf k bh) (by omega)
    show ((s.bf _ _).getD i []).length ≤ _
    omega
  | .star r, k, bh, h => by
    simp only [Lx.sz] at h ⊢
    have h1 := r.bf_len i k bh (by omega)
    have h3 := addTo_len (r.fi k) i (r.la k) (r.bf k bh)
    have h4 := mul_900 (a := (r.la k).length) (b := (r.fi k).length) (by have := (r.la_len k).1; have := r.n_sz; omega) (by have := (r.fi_len k).1; have := r.n_sz; omega)
    show ((addTo _ _ _).getD i []).length ≤ _
    omega
  | .plus r, k, bh, h => by
    simp only [Lx.sz] at h ⊢
    have h1 := r.bf_len i k bh (by omega)
    have h3 := addTo_len (r.fi k) i (r.la k) (r.bf k bh)
    have h4 := mul_900 (a := (r.la k).length) (b := (r.fi k).length) (by have := (r.la_len k).1; have := r.n_sz; omega) (by have := (r.fi_len k).1; have := r.n_sz; omega)
    show ((addTo _ _ _).getD i []).length ≤ _
    omega
  | .maybe r, k, bh, h => by
    simp only [Lx.sz] at h ⊢
    have h1 := r.bf_len i k bh (by omega)
    show ((r.bf _ _).getD i []).length ≤ _
    omega
end Go.Proofs.YtbaegfjoionojaaDoor.Qa
