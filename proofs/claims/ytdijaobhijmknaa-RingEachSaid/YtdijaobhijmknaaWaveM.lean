/- Plain facts for chapter 7 (wave): what lies in a range, the next number, places of numbers. No program in sight. -/
import Derived.Test.YtdijaobhijmknaaPackM
set_option linter.unusedSimpArgs false
set_option linter.unusedVariables false
namespace Go.Proofs.Ytdijaobhijmknaa.WM
open Go Go.RowKit Go.Proofs.YtdijaobhijmknaaW.PrintWords Go.Proofs.Ytdijaobhijmknaa.PM
/-- The numbers from a place up to another one, both held within. -/
def cutI (l : List Int) (a b : Int) : List Int := (l.take b.toNat).drop a.toNat
/-- How many lie from one to another one. -/
def countI (l : List Int) (lo hi : Int) : Nat := (l.filter fun x => decide (lo ≤ x) && decide (x ≤ hi)).length
/-- One round of the search for the next one. -/
def better (v : Int) (best x : Int) : Int := if v ≤ x ∧ (best < 0 ∨ x < best) then x else best
/-- The least that is not below v; -1. -/
def nextI (l : List Int) (v : Int) : Int := l.foldl (better v) (-1)
/-- The place of the number v that has k of its kind ahead, from place i on; -1. -/
def selectI (v k : Int) : List Int → Int → Int
  | [], _ => -1
  | x :: l, i => if x = v then (if k = 0 then i else selectI v (k - 1) l (i + 1)) else selectI v k l (i + 1)

theorem countI_append (a b : List Int) (lo hi : Int) : countI (a ++ b) lo hi = countI a lo hi + countI b lo hi := by simp [countI]
theorem countI_le (l : List Int) (lo hi : Int) : countI l lo hi ≤ l.length := List.length_filter_le _ _
theorem take_succ_rd (l : List Int) (i : Nat) (h : i < l.length) : l.take (i + 1) = l.take i ++ [rd l (i : Int)] := by
  rw [List.take_succ_eq_append_getElem h, rd_nat]; simp [h]
theorem countI_step (l : List Int) (i : Nat) (h : i < l.length) (lo hi : Int) : countI (l.take (i + 1)) lo hi = countI (l.take i) lo hi + if lo ≤ rd l i ∧ rd l i ≤ hi then 1 else 0 := by
  rw [take_succ_rd l i h, countI_append]
  congr 1
  unfold countI
  by_cases c1 : lo ≤ rd l i <;> by_cases c2 : rd l i ≤ hi <;> simp [c1, c2]
theorem nextI_step (l : List Int) (i : Nat) (h : i < l.length) (v : Int) : nextI (l.take (i + 1)) v = better v (nextI (l.take i) v) (rd l i) := by
  rw [take_succ_rd l i h]; simp [nextI]
theorem cutI_mem {l : List Int} {a b x : Int} (h : x ∈ cutI l a b) : x ∈ l := List.mem_of_mem_take (List.mem_of_mem_drop h)
theorem cutI_length_le (l : List Int) (a b : Int) : (cutI l a b).length ≤ l.length := by
  unfold cutI; simp; omega
theorem cutI_none {l : List Int} {a b F T : Int} (hF : F = if a < 0 then 0 else a) (hT : T = if (l.length : Int) < b then (l.length : Int) else b) (h : ¬ F < T) : cutI l a b = [] := by
  unfold cutI
  apply List.eq_nil_of_length_eq_zero
  rw [List.length_drop, List.length_take]
  split at hF <;> split at hT <;> omega
theorem cutI_some {l : List Int} {a b F T : Int} (hF : F = if a < 0 then 0 else a) (hT : T = if (l.length : Int) < b then (l.length : Int) else b) (h : F < T) : cutI l a b = (l.take T.toNat).drop F.toNat := by
  unfold cutI
  have e1 : a.toNat = F.toNat := by split at hF <;> omega
  rw [e1]
  congr 1
  split at hT
  · subst hT
    rw [List.take_of_length_le (by omega), List.take_of_length_le (by omega)]
  · rw [hT]
theorem cutR_none {l : List Int} {a b F T : Int} (hF : F = if (l.length : Int) < (if a < 0 then 0 else a) then (l.length : Int) else (if a < 0 then 0 else a)) (hT : T = if (l.length : Int) < (if b < 0 then 0 else b) then (l.length : Int) else (if b < 0 then 0 else b)) (h : ¬ F < T) : cutI l a b = [] := by
  unfold cutI
  apply List.eq_nil_of_length_eq_zero
  rw [List.length_drop, List.length_take]
  by_cases c1 : a < 0 <;> by_cases c2 : b < 0 <;> simp only [c1, c2, if_true, if_false] at hF hT <;> split at hF <;> split at hT <;> omega
theorem cutR_some {l : List Int} {a b F T : Int} (hF : F = if (l.length : Int) < (if a < 0 then 0 else a) then (l.length : Int) else (if a < 0 then 0 else a)) (hT : T = if (l.length : Int) < (if b < 0 then 0 else b) then (l.length : Int) else (if b < 0 then 0 else b)) (h : F < T) : cutI l a b = (l.take T.toNat).drop F.toNat := by
  unfold cutI
  have hTl : T ≤ l.length := by split at hT <;> omega
  have e1 : a.toNat = F.toNat := by by_cases c1 : a < 0 <;> simp only [c1, if_true, if_false] at hF <;> split at hF <;> omega
  rw [e1]
  congr 1
  by_cases c2 : b < 0
  · simp only [c2, if_true] at hT
    split at hT
    · omega
    · have : 0 ≤ F := by by_cases c1 : a < 0 <;> simp only [c1, if_true, if_false] at hF <;> split at hF <;> omega
      omega
  · simp only [c2, if_false] at hT
    split at hT
    · subst hT
      rw [List.take_of_length_le (by omega), List.take_of_length_le (by omega)]
    · rw [hT]
theorem drop_rd (l : List Int) (i : Nat) (h : i < l.length) : l.drop i = rd l i :: l.drop (i + 1) := by
  rw [List.drop_eq_getElem_cons h, rd_nat]; simp [h]
theorem better_range {v best x : Int} (hb : -1 ≤ best) (hx : -1 ≤ x) : -1 ≤ better v best x := by unfold better; split <;> omega
theorem nextI_range (l : List Int) (v : Int) (h : ∀ x ∈ l, (0 : Int) ≤ x ∧ x ≤ 1048575) : -1 ≤ nextI l v ∧ nextI l v ≤ 1048575 := by
  unfold nextI
  have key : ∀ (l : List Int) (b : Int), (∀ x ∈ l, (0 : Int) ≤ x ∧ x ≤ 1048575) → -1 ≤ b → b ≤ 1048575 → -1 ≤ l.foldl (better v) b ∧ l.foldl (better v) b ≤ 1048575 := by
    intro l
    induction l with
    | nil => intro b _ h1 h2; exact ⟨h1, h2⟩
    | cons x l ih =>
      intro b hl h1 h2
      have hx := hl x List.mem_cons_self
      refine ih (better v b x) (fun y hy => hl y (List.mem_cons_of_mem _ hy)) ?_ ?_
      · unfold better; split <;> omega
      · unfold better; split <;> omega
  exact key l (-1) h (by omega) (by omega)
theorem selectI_eq (v k : Int) (l : List Int) : ∀ i : Int, 0 ≤ i → selectI v k l i = -1 ∨ i ≤ selectI v k l i ∧ selectI v k l i < i + l.length := by
  induction l generalizing k with
  | nil => intro i _; exact .inl rfl
  | cons x l ih =>
    intro i hi
    rw [selectI]
    simp only [List.length_cons]
    split
    · split
      · right; omega
      · rcases ih (k - 1) (i + 1) (by omega) with h | h
        · exact .inl h
        · right; omega
    · rcases ih k (i + 1) (by omega) with h | h
      · exact .inl h
      · right; omega
/-- Below nought there is none. -/
theorem selectI_neg (v : Int) (l : List Int) : ∀ k i : Int, k < 0 → selectI v k l i = -1 := by
  induction l with
  | nil => intro k i _; rfl
  | cons x l ih =>
    intro k i hk
    rw [selectI]
    rw [if_neg (show ¬ k = 0 by omega)]
    split
    · exact ih (k - 1) (i + 1) (by omega)
    · exact ih k (i + 1) hk
end Go.Proofs.Ytdijaobhijmknaa.WM
