/- Chapter 13, plain: one path is of one kind; how many steps there are. -/
import Derived.Test.YtbaegfjoionojaaDoorQaJ
set_option linter.unusedVariables false
set_option linter.unusedSimpArgs false
namespace Go.Proofs.YtbaegfjoionojaaDoor.Qa
open Go Go.Proofs.YtbaegfjoionojaaDoor.Qy Go.Proofs.YtbaegfjoionojaaDoor.Tm

/-! ### one path, one kind -/
theorem Rx.p_inj : ∀ (r s : Rx), r.p = s.p → r = s
  | .iri t, s, h => by
    cases s <;> simp only [Rx.p, Pth.mk.injEq] at h <;> first | (obtain ⟨_, rfl, _⟩ := h; rfl) | (exact absurd h.1 (by decide))
  | .neg ts, s, h => by
    cases s <;> simp only [Rx.p, Pth.mk.injEq] at h <;> first | (obtain ⟨_, _, rfl, _⟩ := h; rfl) | (exact absurd h.1 (by decide))
  | .back r, s, h => by
    cases s <;> simp only [Rx.p, Pth.mk.injEq, List.cons.injEq, and_true, true_and] at h <;> first | (rw [r.p_inj _ h]) | (exact absurd h.1 (by decide))
  | .star r, s, h => by
    cases s <;> simp only [Rx.p, Pth.mk.injEq, List.cons.injEq, and_true, true_and] at h <;> first | (rw [r.p_inj _ h]) | (exact absurd h.1 (by decide))
  | .plus r, s, h => by
    cases s <;> simp only [Rx.p, Pth.mk.injEq, List.cons.injEq, and_true, true_and] at h <;> first | (rw [r.p_inj _ h]) | (exact absurd h.1 (by decide))
  | .maybe r, s, h => by
    cases s <;> simp only [Rx.p, Pth.mk.injEq, List.cons.injEq, and_true, true_and] at h <;> first | (rw [r.p_inj _ h]) | (exact absurd h.1 (by decide))
  | .seq r q, s, h => by
    cases s <;> simp only [Rx.p, Pth.mk.injEq, List.cons.injEq, and_true, true_and] at h <;> first | (rw [r.p_inj _ h.1, q.p_inj _ h.2]) | (exact absurd h.1 (by decide))
  | .alt r q, s, h => by
    cases s <;> simp only [Rx.p, Pth.mk.injEq, List.cons.injEq, and_true, true_and] at h <;> first | (rw [r.p_inj _ h.1, q.p_inj _ h.2]) | (exact absurd h.1 (by decide))
/-! ### how many steps -/
noncomputable def Lx.cnt (e : Lx) (i : Nat) : Nat := ((List.range i).map fun k => (e.row k).length).sum
theorem sum_le {f g : Nat → Nat} (h : ∀ i, f i ≤ g i) : ∀ l : List Nat, (l.map f).sum ≤ (l.map g).sum
  | [] => Nat.le_refl _
  | a :: l => by simp only [List.map_cons, List.sum_cons]; have := sum_le h l; have := h a; omega
theorem filter_le {p q : Nat → Bool} (h : ∀ i, p i = true → q i = true) : ∀ l : List Nat, (l.filter p).length ≤ (l.filter q).length
  | [] => Nat.le_refl _
  | a :: l => by
    have := filter_le h l
    simp only [List.filter_cons]
    cases hp : p a with
    | true => rw [h a hp]; simpa using this
    | false => cases q a <;> simp <;> omega
theorem row_shift (m : Nat) {e f : Lx} {i i' : Nat} (hn : f.n = m + e.n) (h : ∀ j, e.go i j → f.go i' (m + j)) : (e.row i).length ≤ (f.row i').length := by
  unfold Lx.row
  rw [hn, show m + e.n + 1 = m + (e.n + 1) by omega]
  generalize e.n + 1 = N
  rw [List.range_add, List.filter_append, List.length_append, List.filter_map, List.length_map]
  have := filter_le (p := fun j => @decide (e.go i j) (Classical.propDecidable _)) (q := (fun j => @decide (f.go i' j) (Classical.propDecidable _)) ∘ fun x => m + x) (fun j hj => by
    rw [@decide_eq_true_eq _ (Classical.propDecidable _)] at hj
    show @decide _ (Classical.propDecidable _) = true
    rw [@decide_eq_true_eq _ (Classical.propDecidable _)]
    exact h j hj) (List.range N)
  omega
theorem row_head {e f : Lx} (m : Nat) {i i' : Nat} (hn : f.n = e.n + m) (h : ∀ j, e.go i j → f.go i' j) : (e.row i).length ≤ (f.row i').length := by
  unfold Lx.row
  rw [hn, show e.n + m + 1 = (e.n + 1) + m by omega]
  generalize e.n + 1 = N
  rw [List.range_add, List.filter_append, List.length_append]
  have := filter_le (p := fun j => @decide (e.go i j) (Classical.propDecidable _)) (q := (fun j => @decide (f.go i' j) (Classical.propDecidable _))) (fun j hj => by
    rw [@decide_eq_true_eq _ (Classical.propDecidable _)] at hj ⊢
    exact h j hj) (List.range N)
  omega
theorem cnt_head {e f : Lx} (m : Nat) (hn : f.n = e.n + m) (h : ∀ i j, e.go i j → f.go i j) : e.cnt (e.n + 1) ≤ f.cnt (f.n + 1) := by
  unfold Lx.cnt
  have key := fun i => row_head m hn (h i)
  rw [hn, show e.n + m + 1 = (e.n + 1) + m by omega]
  generalize e.n + 1 = N
  rw [List.range_add, List.map_append, List.sum_append]
  have := sum_le (f := fun k => (e.row k).length) (g := fun k => (f.row k).length) key (List.range N)
  omega
theorem sum_first (g : Nat → Nat) : ∀ m, g 0 ≤ ((List.range (m + 1)).map g).sum
  | 0 => by simp [List.range_succ]
  | m + 1 => by
    have := sum_first g m
    have e1 : List.range (m + 1 + 1) = List.range (m + 1) ++ [m + 1] := List.range_succ
    rw [e1, List.map_append, List.sum_append]
    omega
theorem cnt_shift {e f : Lx} (m : Nat) (hn : f.n = m + e.n) (h0 : ∀ j, e.go 0 j → f.go 0 (m + j)) (h : ∀ i j, i ≠ 0 → e.go i j → f.go (m + i) (m + j)) : e.cnt (e.n + 1) ≤ f.cnt (f.n + 1) := by
  have key : ∀ k, ((List.range (k + 1)).map fun i => (e.row i).length).sum ≤ ((List.range (m + k + 1)).map fun i => (f.row i).length).sum := by
    intro k
    induction k with
    | zero =>
      have h1 := row_shift m hn h0
      have h2 := sum_first (fun i => (f.row i).length) m
      have e1 : ((List.range (0 + 1)).map fun i => (e.row i).length).sum = (e.row 0).length := by simp [List.range_succ]
      rw [e1]
      exact Nat.le_trans h1 h2
    | succ k ih =>
      have e1 : List.range (k + 1 + 1) = List.range (k + 1) ++ [k + 1] := List.range_succ
      have e2 : List.range (m + (k + 1) + 1) = List.range (m + k + 1) ++ [m + (k + 1)] := List.range_succ
      have h1 := row_shift m hn (h (k + 1) · (by omega))
      rw [e1, e2, List.map_append, List.sum_append, List.map_append, List.sum_append]
      simp only [List.map_cons, List.map_nil, List.sum_cons, List.sum_nil]
      omega
  have := key e.n
  unfold Lx.cnt
  rw [hn]; exact this
theorem Lx.fi_shift (m : Nat) : ∀ (e : Lx) (k j : Nat), j ∈ e.fi k ↔ m + j ∈ e.fi (m + k)
  | .leaf _, k, j => by simp only [Lx.fi, List.mem_singleton]; omega
  | .seq r s, k, j => by
    have h1 := r.fi_shift m k j
    have h2 := s.fi_shift m (k + r.n) j
    rw [← Nat.add_assoc] at h2
    unfold Lx.fi
    split
    · rw [List.mem_append, List.mem_append, h1, h2]
    · exact h1
  | .alt r s, k, j => by
    have h1 := r.fi_shift m k j
    have h2 := s.fi_shift m (k + r.n) j
    rw [← Nat.add_assoc] at h2
    unfold Lx.fi
    rw [List.mem_append, List.mem_append, h1, h2]
  | .star r, k, j => r.fi_shift m k j
  | .plus r, k, j => r.fi_shift m k j
  | .maybe r, k, j => r.fi_shift m k j
theorem Lx.la_shift (m : Nat) : ∀ (e : Lx) (k j : Nat), j ∈ e.la k ↔ m + j ∈ e.la (m + k)
  | .leaf _, k, j => by simp only [Lx.la, List.mem_singleton]; omega
  | .seq r s, k, j => by
    have h1 := r.la_shift m k j
    have h2 := s.la_shift m (k + r.n) j
    rw [← Nat.add_assoc] at h2
    unfold Lx.la
    split
    · rw [List.mem_append, List.mem_append, h1, h2]
    · exact h2
  | .alt r s, k, j => by
    have h1 := r.la_shift m k j
    have h2 := s.la_shift m (k + r.n) j
    rw [← Nat.add_assoc] at h2
    unfold Lx.la
    rw [List.mem_append, List.mem_append, h1, h2]
  | .star r, k, j => r.la_shift m k j
  | .plus r, k, j => r.la_shift m k j
  | .maybe r, k, j => r.la_shift m k j
theorem Lx.fo_shift (m : Nat) : ∀ (e : Lx) (k i j : Nat), e.fo k i j ↔ e.fo (m + k) (m + i) (m + j)
  | .leaf _, k, i, j => Iff.rfl
  | .seq r s, k, i, j => by
    have h1 := r.fo_shift m k i j
    have h2 := s.fo_shift m (k + r.n) i j
    have h3 := r.la_shift m k i
    have h4 := s.fi_shift m (k + r.n) j
    rw [← Nat.add_assoc] at h2 h4
    simp only [Lx.fo, h1, h2, h3, h4]
  | .alt r s, k, i, j => by
    have h1 := r.fo_shift m k i j
    have h2 := s.fo_shift m (k + r.n) i j
    rw [← Nat.add_assoc] at h2
    simp only [Lx.fo, h1, h2]
  | .star r, k, i, j => by simp only [Lx.fo, r.fo_shift m k i j, r.la_shift m k i, r.fi_shift m k j]
  | .plus r, k, i, j => by simp only [Lx.fo, r.fo_shift m k i j, r.la_shift m k i, r.fi_shift m k j]
  | .maybe r, k, i, j => r.fo_shift m k i j
theorem cnt_alt_left (r s : Lx) : r.cnt (r.n + 1) ≤ (Lx.alt r s).cnt ((Lx.alt r s).n + 1) := by
  refine cnt_head s.n (by rw [Lx.n_alt]) (fun i j h => ?_)
  unfold Lx.go at h ⊢
  split
  · rename_i h0; rw [if_pos h0] at h
    unfold Lx.fi; exact List.mem_append_left _ h
  · rename_i h0; rw [if_neg h0] at h
    exact Or.inl h
theorem cnt_alt_right (r s : Lx) : s.cnt (s.n + 1) ≤ (Lx.alt r s).cnt ((Lx.alt r s).n + 1) := by
  refine cnt_shift r.n (by rw [Lx.n_alt]) (fun j h => ?_) (fun i j hi h => ?_)
  · unfold Lx.go at h ⊢
    rw [if_pos rfl] at h ⊢
    unfold Lx.fi
    rw [List.mem_append, show 0 + r.n = r.n + 0 by omega]
    exact Or.inr ((s.fi_shift r.n 0 j).1 h)
  · unfold Lx.go at h ⊢
    rw [if_neg hi] at h
    rw [if_neg (by omega)]
    unfold Lx.fo
    rw [show 0 + r.n = r.n + 0 by omega]
    exact Or.inr ((s.fo_shift r.n 0 i j).1 h)
theorem cnt_star (e : Lx) : e.cnt (e.n + 1) ≤ (Lx.star e).cnt ((Lx.star e).n + 1) := by
  refine cnt_head 0 rfl (fun i j h => ?_)
  unfold Lx.go at h ⊢
  split
  · rename_i h0; rw [if_pos h0] at h; exact h
  · rename_i h0; rw [if_neg h0] at h; exact Or.inl h
theorem cnt_plus (e : Lx) : (Lx.plus e).cnt ((Lx.plus e).n + 1) = (Lx.star e).cnt ((Lx.star e).n + 1) := rfl
theorem cnt_maybe (e : Lx) : (Lx.maybe e).cnt ((Lx.maybe e).n + 1) = e.cnt (e.n + 1) := rfl
theorem cnt_bound (e : Lx) : e.cnt (e.n + 1) ≤ (e.n + 1) * (e.n + 1) := by
  have key : ∀ k, e.cnt k ≤ k * (e.n + 1) := by
    intro k
    induction k with
    | zero => simp [Lx.cnt]
    | succ k ih =>
      unfold Lx.cnt at ih ⊢
      rw [List.range_succ, List.map_append, List.sum_append, Nat.succ_mul]
      have := e.row_len k
      simp only [List.map_cons, List.map_nil, List.sum_cons, List.sum_nil]
      omega
  exact key _
theorem cnt_succ (e : Lx) (i : Nat) : e.cnt (i + 1) = e.cnt i + (e.row i).length := by
  unfold Lx.cnt
  rw [List.range_succ, List.map_append, List.sum_append]
  simp
theorem steps_cnt (e : Lx) (i : Nat) : (e.stepsTo i).length = e.cnt i := by
  induction i with
  | zero => rfl
  | succ i ih =>
    rw [Lx.stepsTo_succ, List.length_append, cnt_succ, ih]
    unfold Lx.stps
    rw [List.length_map]
end Go.Proofs.YtbaegfjoionojaaDoor.Qa
