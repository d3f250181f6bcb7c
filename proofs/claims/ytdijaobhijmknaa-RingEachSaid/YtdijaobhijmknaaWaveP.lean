/- The plain laws of wave: the next one, counts, ranges. No program in sight. -/
import Derived.Test.YtdijaobhijmknaaSortM
import Derived.Test.YtdijaobhijmknaaWaveM
set_option linter.unusedSimpArgs false
set_option linter.unusedVariables false
namespace Go.Proofs.Ytdijaobhijmknaa.WM
open Go Go.RowKit Go.Proofs.YtdijaobhijmknaaW.PrintWords Go.Proofs.Ytdijaobhijmknaa.Bs Go.Proofs.Ytdijaobhijmknaa.PM Go.Proofs.Ytdijaobhijmknaa.SM

theorem nextI_spec {xs : List Int} {lo : Int} (hx : ∀ x ∈ xs, (0 : Int) ≤ x) :
    (nextI xs lo = -1 ∧ ∀ x ∈ xs, x < lo) ∨ (nextI xs lo ∈ xs ∧ lo ≤ nextI xs lo ∧ ∀ x ∈ xs, lo ≤ x → nextI xs lo ≤ x) := by
  unfold nextI
  have key : ∀ (ys zs : List Int) (b : Int), (∀ x ∈ zs, (0 : Int) ≤ x) → (∀ x ∈ ys, (0 : Int) ≤ x) →
      ((b = -1 ∧ ∀ x ∈ ys, x < lo) ∨ (b ∈ ys ∧ lo ≤ b ∧ ∀ x ∈ ys, lo ≤ x → b ≤ x)) →
      ((zs.foldl (better lo) b = -1 ∧ ∀ x ∈ ys ++ zs, x < lo) ∨ (zs.foldl (better lo) b ∈ ys ++ zs ∧ lo ≤ zs.foldl (better lo) b ∧ ∀ x ∈ ys ++ zs, lo ≤ x → zs.foldl (better lo) b ≤ x)) := by
    intro ys zs
    induction zs generalizing ys with
    | nil => intro b _ _ h; simpa using h
    | cons z zs ih =>
      intro b hz hy h
      have e : ys ++ z :: zs = (ys ++ [z]) ++ zs := by simp
      rw [e, List.foldl_cons]
      have hz0 := hz z List.mem_cons_self
      refine ih (ys ++ [z]) _ (fun x hx => hz x (List.mem_cons_of_mem _ hx)) (fun x hx => ?_) ?_
      · rcases List.mem_append.1 hx with h1 | h1
        · exact hy x h1
        · simp at h1; omega
      · unfold better
        rcases h with ⟨rfl, h⟩ | ⟨h1, h2, h3⟩
        · by_cases c : lo ≤ z
          · right
            rw [if_pos ⟨c, .inl (by omega)⟩]
            refine ⟨by simp, c, fun x hx hl => ?_⟩
            rcases List.mem_append.1 hx with h1 | h1
            · have := h x h1; omega
            · simp at h1; omega
          · left
            rw [if_neg (fun h => c h.1)]
            refine ⟨rfl, fun x hx => ?_⟩
            rcases List.mem_append.1 hx with h1 | h1
            · exact h x h1
            · simp at h1; omega
        · right
          have hb0 := hy b h1
          by_cases c : lo ≤ z ∧ (b < 0 ∨ z < b)
          · rw [if_pos c]
            refine ⟨by simp, c.1, fun x hx hl => ?_⟩
            rcases List.mem_append.1 hx with h4 | h4
            · have := h3 x h4 hl; omega
            · simp at h4; omega
          · rw [if_neg c]
            refine ⟨by simp [h1], h2, fun x hx hl => ?_⟩
            rcases List.mem_append.1 hx with h4 | h4
            · exact h3 x h4 hl
            · simp at h4; omega
  have := key [] xs (-1) hx (by simp) (.inl ⟨rfl, by simp⟩)
  simpa using this
/-- Numbers of a row that may be are from nought on, below 2^20. -/
theorem countI_all {xs : List Int} {lo hi : Int} (h : ∀ x ∈ xs, lo ≤ x ∧ x ≤ hi) : countI xs lo hi = xs.length := by
  unfold countI
  rw [List.filter_eq_self.2]
  intro x hx
  have := h x hx
  simp; omega
theorem countI_none {xs : List Int} {lo hi : Int} (h : ∀ x ∈ xs, x < lo ∨ hi < x) : countI xs lo hi = 0 := by
  unfold countI
  rw [List.length_eq_zero_iff, List.filter_eq_nil_iff]
  intro x hx
  have := h x hx
  simp; omega
theorem countI_split (xs : List Int) (lo v hi : Int) (h1 : lo ≤ v + 1) (h2 : v ≤ hi) : countI xs lo v + countI xs (v + 1) hi = countI xs lo hi := by
  unfold countI
  induction xs with
  | nil => rfl
  | cons x xs ih =>
    rw [List.filter_cons, List.filter_cons, List.filter_cons]
    by_cases c1 : lo ≤ x <;> by_cases c2 : x ≤ v <;> by_cases c3 : x ≤ hi <;> by_cases c4 : v + 1 ≤ x <;> simp [c1, c2, c3, c4] <;> omega
theorem countI_pos {xs : List Int} {x : Int} (h : x ∈ xs) : 1 ≤ countI xs x x := by
  unfold countI
  apply List.length_pos_of_mem (a := x)
  rw [List.mem_filter]
  exact ⟨h, by simp⟩
theorem cutI_zero (l : List Int) (b : Int) : cutI l 0 b = l.take b.toNat := by unfold cutI; simp
theorem cutI_all (l : List Int) : cutI l 0 l.length = l := by unfold cutI; simp
theorem cutI_to_end (l : List Int) (a : Int) : cutI l a l.length = l.drop a.toNat := by unfold cutI; simp
/-- Places beyond the ends are held within. -/
theorem cutI_clamp {l : List Int} {a b F T : Int} (hF : F = if (l.length : Int) < (if a < 0 then 0 else a) then (l.length : Int) else (if a < 0 then 0 else a)) (hT : T = if (l.length : Int) < (if b < 0 then 0 else b) then (l.length : Int) else (if b < 0 then 0 else b)) : cutI l a b = cutI l F T := by
  unfold cutI
  have h1 : F = min (max a 0) l.length := by by_cases c1 : a < 0 <;> simp only [c1, if_true, if_false] at hF <;> split at hF <;> omega
  have h2 : T = min (max b 0) l.length := by by_cases c1 : b < 0 <;> simp only [c1, if_true, if_false] at hT <;> split at hT <;> omega
  apply List.ext_getElem?
  intro i
  rw [List.getElem?_drop, List.getElem?_drop]
  by_cases c : a.toNat + i < min b.toNat l.length
  · rw [List.getElem?_take_of_lt (by omega), List.getElem?_take_of_lt (by omega)]
    congr 1
    omega
  · rw [List.getElem?_eq_none (by rw [List.length_take]; omega), List.getElem?_eq_none (by rw [List.length_take]; omega)]
theorem cutI_clamp_length {l : List Int} {a b F T : Int} (hF : F = if (l.length : Int) < (if a < 0 then 0 else a) then (l.length : Int) else (if a < 0 then 0 else a)) (hT : T = if (l.length : Int) < (if b < 0 then 0 else b) then (l.length : Int) else (if b < 0 then 0 else b)) : ((cutI l a b).length : Int) = if T - F < 0 then 0 else T - F := by
  have h1 : F = min (max a 0) l.length := by by_cases c1 : a < 0 <;> simp only [c1, if_true, if_false] at hF <;> split at hF <;> omega
  have h2 : T = min (max b 0) l.length := by by_cases c1 : b < 0 <;> simp only [c1, if_true, if_false] at hT <;> split at hT <;> omega
  unfold cutI
  rw [List.length_drop, List.length_take]
  split <;> omega
/-- Where the number of place i is found: behind as many of it as are ahead. -/
theorem selectI_rank (l : List Int) (i : Nat) (h : i < l.length) : selectI (rd l i) (countI (l.take i) (rd l i) (rd l i) : Int) l 0 = i := by
  have key : ∀ (l : List Int) (i : Nat) (x s : Int) (h : i < l.length), l[i]'h = x → selectI x (countI (l.take i) x x : Int) l s = s + i := by
    intro l
    induction l with
    | nil => intro i x s h; simp at h
    | cons y l ih =>
      intro i x s h hx
      cases i with
      | zero =>
        simp only [List.getElem_cons_zero] at hx
        rw [selectI, if_pos hx]
        simp [countI]
      | succ i =>
        simp only [List.getElem_cons_succ] at hx
        have hr := ih i x (s + 1) (by simpa using h) hx
        rw [selectI, List.take_succ_cons]
        by_cases c : y = x
        · rw [if_pos c]
          have e : countI (y :: l.take i) x x = countI (l.take i) x x + 1 := by simp [countI, c]
          rw [e, if_neg (by omega)]
          have e2 : ((countI (l.take i) x x + 1 : Nat) : Int) - 1 = (countI (l.take i) x x : Int) := by omega
          rw [e2, hr]
          omega
        · rw [if_neg c]
          have e : countI (y :: l.take i) x x = countI (l.take i) x x := by
            unfold countI
            rw [List.filter_cons_of_neg (by simp; omega)]
          rw [e, hr]
          omega
  have := key l i (rd l i) 0 h (by rw [rd_nat]; simp [h])
  rw [this]
  omega
/-- What the next ones tell, one behind the other: v is the next one, ds are those so far. -/
def Rises (xs ds : List Int) (v : Int) : Prop :=
  ds.Pairwise (· < ·) ∧ (∀ x ∈ ds, x ∈ xs ∧ 0 ≤ x) ∧ (∀ x ∈ xs, x ∈ ds ∨ (0 ≤ v ∧ v ≤ x)) ∧ (v = -1 ∨ (v ∈ xs ∧ 0 ≤ v ∧ ∀ x ∈ ds, x < v)) ∧ (0 ≤ v → (ds.length : Int) ≤ v) ∧ ds.length ≤ 1048576
theorem rises_first {xs : List Int} (hx : ∀ x ∈ xs, (0 : Int) ≤ x ∧ x ≤ 1048575) : Rises xs [] (nextI xs 0) := by
  rcases nextI_spec (lo := 0) (fun x h => (hx x h).1) with ⟨h1, h2⟩ | ⟨h1, h2, h3⟩
  · refine ⟨List.Pairwise.nil, by simp, fun x hm => ?_, .inl h1, by simp, by simp⟩
    have := h2 x hm; have := hx x hm; omega
  · exact ⟨List.Pairwise.nil, by simp, fun x hm => .inr ⟨h2, h3 x hm (hx x hm).1⟩, .inr ⟨h1, h2, by simp⟩, by simp, by simp⟩
theorem rises_step {xs ds : List Int} {v : Int} (hx : ∀ x ∈ xs, (0 : Int) ≤ x ∧ x ≤ 1048575) (h : Rises xs ds v) (hv : 0 ≤ v) :
    Rises xs (ds ++ [v]) (nextI xs (v + 1)) ∧ (nextI xs (v + 1) = -1 ∨ v < nextI xs (v + 1)) := by
  obtain ⟨h1, h2, h3, h4, h5, h6⟩ := h
  rcases h4 with h4 | ⟨hm, _, hb⟩
  · omega
  have hp : (ds ++ [v]).Pairwise (· < ·) := List.pairwise_append.2 ⟨h1, by simp, fun a ha b hb' => by simp at hb'; subst hb'; exact hb a ha⟩
  have hin : ∀ x ∈ ds ++ [v], x ∈ xs ∧ 0 ≤ x := fun x hm' => by
    rcases List.mem_append.1 hm' with h | h
    · exact h2 x h
    · simp at h; subst h; exact ⟨hm, hv⟩
  have hv1 := (hx v hm).2
  have hlen := h5 hv
  rcases nextI_spec (lo := v + 1) (fun x h => (hx x h).1) with ⟨n1, n2⟩ | ⟨n1, n2, n3⟩
  · refine ⟨⟨hp, hin, fun x hm' => .inl ?_, .inl n1, fun h => by omega, by simp; omega⟩, .inl n1⟩
    rcases h3 x hm' with h | h
    · simp [h]
    · have := n2 x hm'
      have : x = v := by omega
      simp [this]
  · refine ⟨⟨hp, hin, fun x hm' => ?_, .inr ⟨n1, by omega, fun x hm' => ?_⟩, fun h => by simp; omega, by simp; omega⟩, .inr (by omega)⟩
    · rcases h3 x hm' with h | h
      · left; simp [h]
      · by_cases c : x = v
        · left; simp [c]
        · right; exact ⟨by omega, n3 x hm' (by omega)⟩
    · rcases List.mem_append.1 hm' with h | h
      · have := hb x h; omega
      · simp at h; omega
theorem rises_end {xs ds : List Int} {v : Int} (h : Rises xs ds v) (hv : v < 0) : IsDistinct xs ds :=
  ⟨h.1, fun x => ⟨fun hm => (h.2.1 x hm).1, fun hm => (h.2.2.1 x hm).resolve_right (by omega)⟩⟩
theorem rises_range {xs ds : List Int} {v : Int} (hx : ∀ x ∈ xs, (0 : Int) ≤ x ∧ x ≤ 1048575) (h : Rises xs ds v) : -1 ≤ v ∧ v ≤ 1048575 := by
  rcases h.2.2.2.1 with h | ⟨h, _, _⟩
  · omega
  · have := hx v h; omega
/-- The numbers that there are, rising: each is the next one behind the one ahead of it. -/
theorem distinct_next {xs d : List Int} (hx : ∀ x ∈ xs, (0 : Int) ≤ x) (hd : IsDistinct xs d) (i : Nat) (hi : i ≤ d.length) (at_ : Int)
    (hat : at_ = if i = 0 then 0 else rd d (i - 1 : Nat) + 1) :
    nextI xs at_ = if i < d.length then rd d i else -1 := by
  have hget : ∀ j (hj : j < d.length), rd d j = d[j] := fun j hj => by rw [rd_nat]; simp [hj]
  have hrise := List.pairwise_iff_getElem.1 hd.1
  have hbelow : ∀ j (hj : j < d.length), j < i → d[j] < at_ := by
    intro j hj hji
    rw [hat, if_neg (by omega), hget (i - 1) (by omega)]
    by_cases c : j = i - 1
    · subst c; omega
    · have := hrise j (i - 1) hj (by omega) (by omega); omega
  have habove : ∀ j (hj : j < d.length), i ≤ j → at_ ≤ d[j] := by
    intro j hj hji
    rw [hat]
    by_cases c : i = 0
    · rw [if_pos c]
      exact hx _ ((hd.2 _).1 (List.getElem_mem hj))
    · rw [if_neg c, hget (i - 1) (by omega)]
      have := hrise (i - 1) j (by omega) hj (by omega); omega
  by_cases c : i < d.length
  · rw [if_pos c, hget i c]
    have hm : d[i] ∈ xs := (hd.2 _).1 (List.getElem_mem c)
    rcases nextI_spec (lo := at_) hx with ⟨n1, n2⟩ | ⟨n1, n2, n3⟩
    · have := n2 _ hm; have := habove i c (Nat.le_refl _); omega
    · have h1 := n3 _ hm (habove i c (Nat.le_refl _))
      obtain ⟨j, hj, ej⟩ := List.getElem_of_mem ((hd.2 _).2 n1)
      have : ¬ j < i := fun h => by have := hbelow j hj h; omega
      by_cases c2 : j = i
      · subst c2; omega
      · have := hrise i j c hj (by omega); omega
  · rw [if_neg c]
    rcases nextI_spec (lo := at_) hx with ⟨n1, n2⟩ | ⟨n1, n2, n3⟩
    · exact n1
    · obtain ⟨j, hj, ej⟩ := List.getElem_of_mem ((hd.2 _).2 n1)
      have := hbelow j hj (by omega); omega
end Go.Proofs.Ytdijaobhijmknaa.WM
