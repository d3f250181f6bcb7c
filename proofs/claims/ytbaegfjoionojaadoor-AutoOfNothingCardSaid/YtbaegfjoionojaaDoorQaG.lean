/- Chapter 13, plain: the rows in the end, what is taken; paths and what is laid; a path's words. -/
import Derived.Test.YtbaegfjoionojaaDoorQaF
set_option linter.unusedVariables false
set_option linter.unusedSimpArgs false
namespace Go.Proofs.YtbaegfjoionojaaDoor.Qa
open Go

/-! ### the rows as they are in the end; what is taken -/
/-- May a place follow another one, nought being the beginning? -/
def Lx.go (e : Lx) (i j : Nat) : Prop := if i = 0 then j ∈ e.fi 0 else e.fo 0 i j
/-- What may stand behind a place, rising. -/
noncomputable def Lx.row (e : Lx) (i : Nat) : List Nat := (List.range (e.n + 1)).filter (fun j => @decide (e.go i j) (Classical.propDecidable _))
theorem Lx.go_in (e : Lx) {i j : Nat} (h : e.go i j) : 0 < j ∧ j ≤ e.n ∧ i ≤ e.n := by
  unfold Lx.go at h
  split at h
  · have := e.fi_in 0 j h; unfold In at this; omega
  · have := e.fo_in 0 i j h; unfold In at this; omega
theorem Lx.mem_row (e : Lx) (i j : Nat) : j ∈ e.row i ↔ e.go i j := by
  unfold Lx.row
  rw [List.mem_filter, List.mem_range, @decide_eq_true_eq _ (Classical.propDecidable _)]
  exact ⟨fun h => h.2, fun h => ⟨by have := e.go_in h; omega, h⟩⟩
theorem Lx.row_len (e : Lx) (i : Nat) : (e.row i).length ≤ e.n + 1 := by
  unfold Lx.row
  have := List.length_filter_le (fun j => @decide (e.go i j) (Classical.propDecidable _)) (List.range (e.n + 1))
  rwa [List.length_range] at this
theorem Lx.row_rise (e : Lx) (i : Nat) : (e.row i).Pairwise (· < ·) := List.Pairwise.filter _ List.pairwise_lt_range
theorem Chain.snoc {α : Type} {hit : Nat → α → Prop} {R : Nat → Nat → Prop} {a : α} : ∀ {w : List α} {n m : Nat}, Chain hit R n (w ++ [a]) m ↔ ∃ l, Chain hit R n w l ∧ R l m ∧ hit m a
  | [], n, m => by
    constructor
    · rintro ⟨n', h1, h2, h3⟩
      obtain rfl : n' = m := h3
      exact ⟨n, rfl, h1, h2⟩
    · rintro ⟨l, h1, h2, h3⟩
      obtain rfl : n = l := h1
      exact ⟨m, h2, h3, rfl⟩
  | b :: w, n, m => by
    constructor
    · rintro ⟨n', h1, h2, h3⟩
      obtain ⟨l, k1, k2⟩ := (Chain.snoc (w := w)).1 h3
      exact ⟨l, ⟨n', h1, h2, k1⟩, k2⟩
    · rintro ⟨l, ⟨n', h1, h2, k1⟩, k2⟩
      exact ⟨n', h1, h2, (Chain.snoc (w := w)).2 ⟨l, k1, k2⟩⟩
/-- Is a place come to along such a step? -/
def Lx.hit (e : Lx) (n : Nat) (a : Sg) : Prop := ∃ x, e.lv[n - 1]? = some x ∧ x.hit a = true
/-- May a word end there? -/
def Lx.ends (e : Lx) (m : Nat) : Prop := m = 0 ∧ e.nl = true ∨ m ∈ e.la 0
/-- Is one there behind a word? -/
def Lx.at (e : Lx) (w : List Sg) (m : Nat) : Prop := Chain e.hit e.go 0 w m
def Lx.takes (e : Lx) (w : List Sg) : Prop := ∃ m, e.at w m ∧ e.ends m
theorem Lx.at_nil (e : Lx) (m : Nat) : e.at [] m ↔ m = 0 := eq_comm
theorem Lx.at_snoc (e : Lx) (w : List Sg) (a : Sg) (m : Nat) : e.at (w ++ [a]) m ↔ ∃ l, e.at w l ∧ e.go l m ∧ e.hit m a := Chain.snoc
theorem Lx.hit_at (e : Lx) : HitAt e.hit e 0 := fun i x hx a => by
  unfold Lx.hit
  rw [show 0 + i + 1 - 1 = i by omega, hx]
  exact ⟨fun ⟨y, hy, h⟩ => by rw [Option.some.inj hy]; exact h, fun h => ⟨x, rfl, h⟩⟩
/-- What is taken is what the words are. -/
theorem Lx.takes_iff (e : Lx) (w : List Sg) : e.takes w ↔ e.L w := by
  rw [e.words 0 e.hit_at w]
  have h0 : 0 ∉ e.la 0 := fun h => by have := e.la_in 0 0 h; unfold In at this; omega
  cases w with
  | nil =>
    constructor
    · rintro ⟨m, h, h2⟩
      rw [e.at_nil] at h
      subst h
      exact Or.inl ⟨rfl, h2.elim (fun h => h.2) (fun h => absurd h h0)⟩
    · rintro (⟨_, h⟩ | h)
      · exact ⟨0, (e.at_nil 0).2 rfl, Or.inl ⟨rfl, h⟩⟩
      · exact h.elim
  | cons a w =>
    have same : ∀ n m, In 0 e.n n → e.go n m → e.fo 0 n m ∧ In 0 e.n m := fun n m hi h => by
      unfold Lx.go at h
      rw [if_neg (by unfold In at hi; omega)] at h
      exact ⟨h, (e.fo_in 0 n m h).2⟩
    constructor
    · rintro ⟨m, ⟨n, h1, h2, h3⟩, h4⟩
      have hn : n ∈ e.fi 0 := h1
      have hi := e.fi_in 0 n hn
      have hm : In 0 e.n m := Chain.inv (fun n m hi h => (same n m hi h).2) hi h3
      refine Or.inr ⟨n, hn, h2, m, h4.elim (fun h => ?_) (fun h => h), Chain.only same hi h3⟩
      unfold In at hm; omega
    · rintro (⟨h, _⟩ | ⟨n, h1, h2, m, h3, h4⟩)
      · cases h
      · refine ⟨m, ⟨n, h1, h2, Chain.only (I := In 0 e.n) (R := e.fo 0) (fun x y hi h => ⟨?_, (e.fo_in 0 x y h).2⟩) (e.fi_in 0 n h1) h4⟩, Or.inr h3⟩
        unfold Lx.go
        rw [if_neg (by unfold In at hi; omega)]
        exact h
/-! ### paths -/
inductive Rx where
  | iri (t : ByteArray)
  | neg (ts : List ByteArray)
  | back (r : Rx)
  | seq (r s : Rx)
  | alt (r s : Rx)
  | star (r : Rx)
  | plus (r : Rx)
  | maybe (r : Rx)
def Rx.lay : Rx → Bool → Lx
  | .iri t, b => .leaf ⟨[t], false, b⟩
  | .neg ts, b => .leaf ⟨ts, true, b⟩
  | .back r, b => r.lay (!b)
  | .seq r s, false => .seq (r.lay false) (s.lay false)
  | .seq r s, true => .seq (s.lay true) (r.lay true)
  | .alt r s, b => .alt (r.lay b) (s.lay b)
  | .star r, b => .star (r.lay b)
  | .plus r, b => .plus (r.lay b)
  | .maybe r, b => .maybe (r.lay b)
def Rx.sz : Rx → Nat
  | .iri _ => 1
  | .neg _ => 1
  | .back r => r.sz + 1
  | .seq r s => r.sz + s.sz + 1
  | .alt r s => r.sz + s.sz + 1
  | .star r => r.sz + 1
  | .plus r => r.sz + 1
  | .maybe r => r.sz + 1
theorem Rx.lay_sz : ∀ (r : Rx) (b : Bool), (r.lay b).sz ≤ r.sz
  | .iri _, b => Nat.le_refl _
  | .neg _, b => Nat.le_refl _
  | .back r, b => by have := r.lay_sz (!b); simp only [Rx.lay, Rx.sz]; omega
  | .seq r s, false => by have := r.lay_sz false; have := s.lay_sz false; simp only [Rx.lay, Rx.sz, Lx.sz]; omega
  | .seq r s, true => by have := r.lay_sz true; have := s.lay_sz true; simp only [Rx.lay, Rx.sz, Lx.sz]; omega
  | .alt r s, b => by have := r.lay_sz b; have := s.lay_sz b; simp only [Rx.lay, Rx.sz, Lx.sz]; omega
  | .star r, b => by have := r.lay_sz b; simp only [Rx.lay, Rx.sz, Lx.sz]; omega
  | .plus r, b => by have := r.lay_sz b; simp only [Rx.lay, Rx.sz, Lx.sz]; omega
  | .maybe r, b => by have := r.lay_sz b; simp only [Rx.lay, Rx.sz, Lx.sz]; omega
theorem Rx.lay_n : ∀ (r : Rx) (b c : Bool), (r.lay b).n = (r.lay c).n
  | .iri _, b, c => rfl
  | .neg _, b, c => rfl
  | .back r, b, c => r.lay_n (!b) (!c)
  | .seq r s, false, false => rfl
  | .seq r s, true, true => rfl
  | .seq r s, false, true => by simp only [Rx.lay, Lx.n_seq]; have := r.lay_n false true; have := s.lay_n false true; omega
  | .seq r s, true, false => by simp only [Rx.lay, Lx.n_seq]; have := r.lay_n false true; have := s.lay_n false true; omega
  | .alt r s, b, c => by simp only [Rx.lay, Lx.n_alt]; have := r.lay_n b c; have := s.lay_n b c; omega
  | .star r, b, c => r.lay_n b c
  | .plus r, b, c => r.lay_n b c
  | .maybe r, b, c => r.lay_n b c
/-- A word, the other way round. -/
def turn (w : List Sg) : List Sg := (w.map fun a => (a.1, !a.2)).reverse
theorem turn_append (u v : List Sg) : turn (u ++ v) = turn v ++ turn u := by simp [turn]
theorem turn_turn (w : List Sg) : turn (turn w) = w := by
  simp only [turn, List.map_reverse, List.reverse_reverse, List.map_map]
  rw [show ((fun a : Sg => (a.1, !a.2)) ∘ fun a : Sg => (a.1, !a.2)) = id by funext a; simp]
  exact List.map_id w
theorem turn_nil : turn [] = [] := rfl
theorem turn_eq_nil {w : List Sg} : turn w = [] ↔ w = [] := by simp [turn]
theorem Star.one {α : Type} {P : List α → Prop} {u : List α} (h : P u) : Star P u := by
  have := Star.cons h Star.nil
  rwa [List.append_nil] at this
theorem Star.append {α : Type} {P : List α → Prop} {u v : List α} (h : Star P u) (k : Star P v) : Star P (u ++ v) := by
  induction h with
  | nil => exact k
  | cons hu _ ih => rw [List.append_assoc]; exact Star.cons hu ih
theorem Star.imp {α : Type} {P Q : List α → Prop} (hi : ∀ w, P w → Q w) {u : List α} (h : Star P u) : Star Q u := by
  induction h with
  | nil => exact Star.nil
  | cons hu _ ih => exact Star.cons (hi _ hu) ih
theorem Star.turn {P Q : List Sg → Prop} (hi : ∀ w, P w → Q (turn w)) {u : List Sg} (h : Star P u) : Star Q (turn u) := by
  induction h with
  | nil => exact Star.nil
  | cons hu _ ih => rw [turn_append]; exact ih.append (Star.one (hi _ hu))
theorem Star.snoc {α : Type} {P : List α → Prop} {w : List α} (h : Star P w) : w = [] ∨ ∃ u v, w = u ++ v ∧ Star P u ∧ P v := by
  induction h with
  | nil => exact Or.inl rfl
  | cons hu hs ih =>
    rename_i u v
    rcases ih with rfl | ⟨a, b, rfl, h1, h2⟩
    · exact Or.inr ⟨[], u, by simp, Star.nil, hu⟩
    · exact Or.inr ⟨u ++ a, b, by simp, Star.cons hu h1, h2⟩
/-- A path's words. -/
def Rx.H : Rx → List Sg → Prop
  | .iri t, w => ∃ a : Sg, w = [a] ∧ a.2 = false ∧ a.1 = t
  | .neg ts, w => ∃ a : Sg, w = [a] ∧ a.2 = false ∧ a.1 ∉ ts
  | .back r, w => r.H (turn w)
  | .seq r s, w => ∃ u v, w = u ++ v ∧ r.H u ∧ s.H v
  | .alt r s, w => r.H w ∨ s.H w
  | .star r, w => Star r.H w
  | .plus r, w => ∃ u v, w = u ++ v ∧ r.H u ∧ Star r.H v
  | .maybe r, w => w = [] ∨ r.H w
theorem hit_iri (t : ByteArray) (b : Bool) (a : Sg) : (⟨[t], false, b⟩ : Alng).hit a = true ↔ a.2 = b ∧ a.1 = t := by
  unfold Alng.hit
  simp only [Bool.and_eq_true, decide_eq_true_eq, bne_iff_ne, ne_eq, Bool.not_eq_false, Go.Lib.containsS_iff, List.mem_singleton]
theorem hit_neg (ts : List ByteArray) (b : Bool) (a : Sg) : (⟨ts, true, b⟩ : Alng).hit a = true ↔ a.2 = b ∧ a.1 ∉ ts := by
  unfold Alng.hit
  simp only [Bool.and_eq_true, decide_eq_true_eq, bne_iff_ne, ne_eq, Go.Lib.containsS_iff]
theorem turn_one {w : List Sg} {a : Sg} : w = [a] ↔ turn w = [(a.1, !a.2)] := by
  constructor
  · rintro rfl; rfl
  · intro h
    rw [← turn_turn w, h]
    simp [turn]
/-- The words of what is laid. -/
theorem Rx.lay_L : ∀ (r : Rx) (w : List Sg), ((r.lay false).L w ↔ r.H w) ∧ ((r.lay true).L w ↔ r.H (turn w))
  | .iri t, w => by
    refine ⟨?_, ?_⟩
    · simp only [Rx.lay, Lx.L, Rx.H, hit_iri]
    · simp only [Rx.lay, Lx.L, Rx.H, hit_iri]
      constructor
      · rintro ⟨a, rfl, h1, h2⟩
        exact ⟨(a.1, !a.2), rfl, by simp [h1], h2⟩
      · rintro ⟨a, h, h1, h2⟩
        exact ⟨(a.1, !a.2), by rw [turn_one, h]; simp, by simp [h1], h2⟩
  | .neg ts, w => by
    refine ⟨?_, ?_⟩
    · simp only [Rx.lay, Lx.L, Rx.H, hit_neg]
    · simp only [Rx.lay, Lx.L, Rx.H, hit_neg]
      constructor
      · rintro ⟨a, rfl, h1, h2⟩
        exact ⟨(a.1, !a.2), rfl, by simp [h1], h2⟩
      · rintro ⟨a, h, h1, h2⟩
        exact ⟨(a.1, !a.2), by rw [turn_one, h]; simp, by simp [h1], h2⟩
  | .back r, w => by
    refine ⟨(r.lay_L w).2, ?_⟩
    show _ ↔ r.H (turn (turn w))
    rw [turn_turn]
    exact (r.lay_L w).1
  | .seq r s, w => by
    refine ⟨?_, ?_⟩
    · constructor
      · rintro ⟨u, v, rfl, h1, h2⟩
        exact ⟨u, v, rfl, (r.lay_L u).1.1 h1, (s.lay_L v).1.1 h2⟩
      · rintro ⟨u, v, rfl, h1, h2⟩
        exact ⟨u, v, rfl, (r.lay_L u).1.2 h1, (s.lay_L v).1.2 h2⟩
    · constructor
      · rintro ⟨u, v, rfl, h1, h2⟩
        exact ⟨turn v, turn u, turn_append u v, (r.lay_L v).2.1 h2, (s.lay_L u).2.1 h1⟩
      · rintro ⟨u, v, h, h1, h2⟩
        refine ⟨turn v, turn u, by rw [← turn_append, ← h, turn_turn], (s.lay_L _).2.2 (by rw [turn_turn]; exact h2), (r.lay_L _).2.2 (by rw [turn_turn]; exact h1)⟩
  | .alt r s, w => ⟨or_congr (r.lay_L w).1 (s.lay_L w).1, or_congr (r.lay_L w).2 (s.lay_L w).2⟩
  | .star r, w => by
    refine ⟨⟨Star.imp fun w => (r.lay_L w).1.1, Star.imp fun w => (r.lay_L w).1.2⟩, ⟨Star.turn fun w => (r.lay_L w).2.1, fun h => ?_⟩⟩
    have := Star.turn (Q := (r.lay true).L) (fun w h => (r.lay_L (Qa.turn w)).2.2 (by rw [turn_turn]; exact h)) h
    rwa [turn_turn] at this
  | .plus r, w => by
    refine ⟨?_, ?_⟩
    · constructor
      · rintro ⟨u, v, rfl, h1, h2⟩
        exact ⟨u, v, rfl, (r.lay_L u).1.1 h1, h2.imp fun w => (r.lay_L w).1.1⟩
      · rintro ⟨u, v, rfl, h1, h2⟩
        exact ⟨u, v, rfl, (r.lay_L u).1.2 h1, h2.imp fun w => (r.lay_L w).1.2⟩
    · have rot : ∀ {P : List Sg → Prop} {u v : List Sg}, P u → Star P v → ∃ a b, u ++ v = a ++ b ∧ Star P a ∧ P b := fun {P u v} hu hv => by
        rcases (Star.cons hu hv).snoc with h | ⟨a, b, h, h1, h2⟩
        · obtain ⟨rfl, rfl⟩ := List.append_eq_nil_iff.1 h
          exact ⟨[], [], rfl, Star.nil, hu⟩
        · exact ⟨a, b, h, h1, h2⟩
      constructor
      · rintro ⟨u, v, rfl, h1, h2⟩
        obtain ⟨a, b, h, k1, k2⟩ := rot h1 h2
        rw [h]
        exact ⟨Qa.turn b, Qa.turn a, turn_append a b, (r.lay_L b).2.1 k2, Star.turn (fun w => (r.lay_L w).2.1) k1⟩
      · rintro ⟨u, v, h, h1, h2⟩
        obtain ⟨a, b, h3, k1, k2⟩ := rot h1 h2
        rw [h3] at h
        refine ⟨Qa.turn b, Qa.turn a, by rw [← turn_append, ← h, turn_turn], (r.lay_L _).2.2 (by rw [turn_turn]; exact k2), Star.turn (fun w h => (r.lay_L (Qa.turn w)).2.2 (by rw [turn_turn]; exact h)) k1⟩
  | .maybe r, w => ⟨or_congr Iff.rfl (r.lay_L w).1, or_congr turn_eq_nil.symm (r.lay_L w).2⟩
end Go.Proofs.YtbaegfjoionojaaDoor.Qa
