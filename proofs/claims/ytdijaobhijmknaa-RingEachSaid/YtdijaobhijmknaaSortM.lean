/- Plain facts on sorted rows of whole numbers without copies. No program in sight. -/
import Derived.Lib.SlicesCompact
import Derived.Sort.OwnSorted
import Derived.Test.YtdijaobhijmknaaBase
set_option linter.unusedSimpArgs false
set_option linter.unusedVariables false
namespace Go.Proofs.Ytdijaobhijmknaa.SM
open Go Go.RowKit Go.Proofs.YtdijaobhijmknaaW.PrintWords Go.Lib Go.Sort
/-- d is all numbers of xs, each once, rising. -/
def IsDistinct (xs d : List Int) : Prop := d.Pairwise (· < ·) ∧ ∀ x, x ∈ d ↔ x ∈ xs
theorem rising_unique {a b : List Int} (ha : a.Pairwise (· < ·)) (hb : b.Pairwise (· < ·)) (h : ∀ x, x ∈ a ↔ x ∈ b) : a = b := by
  induction a generalizing b with
  | nil => cases b with
    | nil => rfl
    | cons y b => exact absurd ((h y).2 List.mem_cons_self) (by simp)
  | cons x a ih => cases b with
    | nil => exact absurd ((h x).1 List.mem_cons_self) (by simp)
    | cons y b =>
      rw [List.pairwise_cons] at ha hb
      have hxy : x = y := by
        have h1 := (h x).1 List.mem_cons_self
        have h2 := (h y).2 List.mem_cons_self
        rcases List.mem_cons.1 h1 with e | e
        · exact e
        · rcases List.mem_cons.1 h2 with e2 | e2
          · exact e2.symm
          · have := hb.1 x e
            have := ha.1 y e2
            omega
      subst hxy
      rw [ih ha.2 hb.2 (fun z => ?_)]
      constructor
      · intro hz
        rcases List.mem_cons.1 ((h z).1 (List.mem_cons_of_mem _ hz)) with e | e
        · subst e; have := ha.1 z hz; omega
        · exact e
      · intro hz
        rcases List.mem_cons.1 ((h z).2 (List.mem_cons_of_mem _ hz)) with e | e
        · subst e; have := hb.1 z hz; omega
        · exact e
theorem IsDistinct.unique {xs a b : List Int} (ha : IsDistinct xs a) (hb : IsDistinct xs b) : a = b :=
  rising_unique ha.1 hb.1 (fun x => (ha.2 x).trans (hb.2 x).symm)
theorem compact_part (zs : List Int) (hs : zs.Pairwise (· ≤ ·)) (m : Nat) (hm : m ≤ zs.length) :
    (compactUpTo zs.toArray m).Pairwise (· < ·) ∧ (∀ x, x ∈ compactUpTo zs.toArray m ↔ x ∈ zs.take m) ∧ (∀ x, x ∈ compactUpTo zs.toArray m → ∀ i, m ≤ i + 1 → (h : i < zs.length) → x ≤ zs[i]) := by
  induction m with
  | zero => simp [compactUpTo]
  | succ m ih =>
    obtain ⟨i1, i2, i3⟩ := ih (by omega)
    have hml : m < zs.length := hm
    have e : zs.toArray[m]! = zs[m] := by simp [hml]
    have hmono : ∀ i j (hi : i < zs.length) (hj : j < zs.length), i ≤ j → zs[i] ≤ zs[j] := fun i j hi hj hij => by
      rcases Nat.lt_or_ge i j with h | h
      · exact List.pairwise_iff_getElem.1 hs i j hi hj h
      · have : i = j := by omega
        subst this; omega
    rw [compactUpTo_succ, e, List.take_succ_eq_append_getElem hml]
    by_cases hk : keeps zs.toArray m = true
    · rw [if_pos hk]
      have hlast : ∀ x, x ∈ compactUpTo zs.toArray m → x < zs[m] := by
        intro x hx
        have hx1 := i3 x hx
        unfold keeps at hk
        rcases of_decide_eq_true hk with h0 | h0
        · subst h0; simp [compactUpTo] at hx
        · by_cases hm0 : m = 0
          · subst hm0; simp [compactUpTo] at hx
          · have e2 : zs.toArray[m - 1]! = zs[m - 1] := by simp [show m - 1 < zs.length by omega]
            rw [e, e2] at h0
            have h1 := hx1 (m - 1) (by omega) (by omega)
            have h2 := hmono (m - 1) m (by omega) hml (by omega)
            omega
      refine ⟨?_, ?_, ?_⟩
      · rw [List.pairwise_append]
        exact ⟨i1, by simp, fun x hx y hy => by simp at hy; subst hy; exact hlast x hx⟩
      · intro x
        rw [List.mem_append, List.mem_append, i2]
      · intro x hx i hi hlt
        rcases List.mem_append.1 hx with h | h
        · have h1 := hlast x h
          have h2 := hmono m i hml hlt (by omega)
          omega
        · simp at h; subst h
          exact hmono m i hml hlt (by omega)
    · rw [if_neg hk, List.append_nil]
      have hk2 : keeps zs.toArray m = false := by simpa using hk
      unfold keeps at hk2
      have hk3 := of_decide_eq_false hk2
      have hm0 : m ≠ 0 := fun h => hk3 (.inl h)
      have e2 : zs.toArray[m - 1]! = zs[m - 1] := by simp [show m - 1 < zs.length by omega]
      have heq : zs[m] = zs[m - 1] := by
        apply Classical.byContradiction
        intro hne
        exact hk3 (.inr (by rw [e, e2]; exact hne))
      refine ⟨i1, ?_, ?_⟩
      · intro x
        rw [i2, List.mem_append]
        constructor
        · exact .inl
        · rintro (h | h)
          · exact h
          · simp at h
            subst h
            rw [heq]
            rw [List.mem_take_iff_getElem]
            exact ⟨m - 1, by omega, rfl⟩
      · intro x hx i hi hlt
        exact i3 x hx i (by omega) hlt
theorem compact_sorted (xs : List Int) : IsDistinct xs (compact (xs.mergeSort fun x y => decide (x ≤ y))) := by
  have hs : (xs.mergeSort fun x y => decide (x ≤ y)).Pairwise (· ≤ ·) := by
    have := List.pairwise_mergeSort (le := fun x y : Int => decide (x ≤ y)) (fun a b c h1 h2 => by simp at *; omega) (fun a b => by simp; omega) xs
    exact this.imp (fun h => by simpa using h)
  obtain ⟨h1, h2, _⟩ := compact_part _ hs _ (Nat.le_refl _)
  refine ⟨h1, fun x => ?_⟩
  unfold compact
  rw [h2, List.take_length, List.mem_mergeSort]
end Go.Proofs.Ytdijaobhijmknaa.SM
