/- Rows of places: cloned, sorted, without copies. -/
import Derived.Lib.SlicesCompact
import Derived.Sort.OwnSorted
import Derived.Test.YtbaegfjoionojaaDoorQaI
import Derived.Test.YtbaegfjoionojaaDoorShelfB
set_option linter.unusedSimpArgs false
set_option linter.unusedVariables false
namespace Go.Proofs.YtbaegfjoionojaaDoor.Qa
open Go Go.RowKit Go.Proofs.YtbaegfjoionojaaDoor.Qy Go.Proofs.YtbaegfjoionojaaDoor.Tm Go.Proofs.YtbaegfjoionojaaDoorW.PrintWords Go.Lib Go.Sort

/-- d is all numbers of xs, each once, rising. -/
def IsDistinct (xs d : List Int) : Prop := d.Pairwise (· < ·) ∧ ∀ x, x ∈ d ↔ x ∈ xs
theorem rising_unique {a b : List Int} (ha : a.Pairwise (· < ·)) (hb : b.Pairwise (· < ·)) (h : ∀ x, x ∈ a ↔ x ∈ b) : a = b := by
  induction a generalizing b with
  | nil => cases b with
    | nil => rfl
    | cons y b => exact absurd ((h y).2 List.mem_cons_self) (by simp)
  | cons x a ih => cases b with
    | nil => exact absurd ((h x).1 List.mem_cons_self) (by simp)
    | cons y b =>
      rw [List.pairwise_cons] at ha hb
      have hxy : x = y := by
        have h1 := (h x).1 List.mem_cons_self
        have h2 := (h y).2 List.mem_cons_self
        rcases List.mem_cons.1 h1 with e | e
        · exact e
        · rcases List.mem_cons.1 h2 with e2 | e2
          · exact e2.symm
          · have := hb.1 x e
            have := ha.1 y e2
            omega
      subst hxy
      rw [ih ha.2 hb.2 (fun z => ?_)]
      constructor
      · intro hz
        rcases List.mem_cons.1 ((h z).1 (List.mem_cons_of_mem _ hz)) with e | e
        · subst e; have := ha.1 z hz; omega
        · exact e
      · intro hz
        rcases List.mem_cons.1 ((h z).2 (List.mem_cons_of_mem _ hz)) with e | e
        · subst e; have := hb.1 z hz; omega
        · exact e
theorem IsDistinct.unique {xs a b : List Int} (ha : IsDistinct xs a) (hb : IsDistinct xs b) : a = b :=
  rising_unique ha.1 hb.1 (fun x => (ha.2 x).trans (hb.2 x).symm)
theorem compact_part (zs : List Int) (hs : zs.Pairwise (· ≤ ·)) (m : Nat) (hm : m ≤ zs.length) :
    (compactUpTo zs.toArray m).Pairwise (· < ·) ∧ (∀ x, x ∈ compactUpTo zs.toArray m ↔ x ∈ zs.take m) ∧ (∀ x, x ∈ compactUpTo zs.toArray m → ∀ i, m ≤ i + 1 → (h : i < zs.length) → x ≤ zs[i]) := by
  induction m with
  | zero => simp [compactUpTo]
  | succ m ih =>
    obtain ⟨i1, i2, i3⟩ := ih (by omega)
    have hml : m < zs.length := hm
    have e : zs.toArray[m]! = zs[m] := by simp [hml]
    have hmono : ∀ i j (hi : i < zs.length) (hj : j < zs.length), i ≤ j → zs[i] ≤ zs[j] := fun i j hi hj hij => by
      rcases Nat.lt_or_ge i j with h | h
      · exact List.pairwise_iff_getElem.1 hs i j hi hj h
      · have : i = j := by omega
        subst this; omega
    rw [compactUpTo_succ, e, List.take_succ_eq_append_getElem hml]
    by_cases hk : keeps zs.toArray m = true
    · rw [if_pos hk]
      have hlast : ∀ x, x ∈ compactUpTo zs.toArray m → x < zs[m] := by
        intro x hx
        have hx1 := i3 x hx
        unfold keeps at hk
        rcases of_decide_eq_true hk with h0 | h0
        · subst h0; simp [compactUpTo] at hx
        · by_cases hm0 : m = 0
          · subst hm0; simp [compactUpTo] at hx
          · have e2 : zs.toArray[m - 1]! = zs[m - 1] := by simp [show m - 1 < zs.length by omega]
            rw [e, e2] at h0
            have h1 := hx1 (m - 1) (by omega) (by omega)
            have h2 := hmono (m - 1) m (by omega) hml (by omega)
            omega
      refine ⟨?_, ?_, ?_⟩
      · rw [List.pairwise_append]
        exact ⟨i1, by simp, fun x hx y hy => by simp at hy; subst hy; exact hlast x hx⟩
      · intro x
        rw [List.mem_append, List.mem_append, i2]
      · intro x hx i hi hlt
        rcases List.mem_append.1 hx with h | h
        · have h1 := hlast x h
          have h2 := hmono m i hml hlt (by omega)
          omega
        · simp at h; subst h
          exact hmono m i hml hlt (by omega)
    · rw [if_neg hk, List.append_nil]
      have hk2 : keeps zs.toArray m = false := by simpa using hk
      unfold keeps at hk2
      have hk3 := of_decide_eq_false hk2
      have hm0 : m ≠ 0 := fun h => hk3 (.inl h)
      have e2 : zs.toArray[m - 1]! = zs[m - 1] := by simp [show m - 1 < zs.length by omega]
      have heq : zs[m] = zs[m - 1] := by
        apply Classical.byContradiction
        intro hne
        exact hk3 (.inr (by rw [e, e2]; exact hne))
      refine ⟨i1, ?_, ?_⟩
      · intro x
        rw [i2, List.mem_append]
        constructor
        · exact .inl
        · rintro (h | h)
          · exact h
          · simp at h
            subst h
            rw [heq]
            rw [List.mem_take_iff_getElem]
            exact ⟨m - 1, by omega, rfl⟩
      · intro x hx i hi hlt
        exact i3 x hx i (by omega) hlt
theorem compact_sorted (xs : List Int) : IsDistinct xs (compact (xs.mergeSort fun x y => decide (x ≤ y))) := by
  have hs : (xs.mergeSort fun x y => decide (x ≤ y)).Pairwise (· ≤ ·) := by
    have := List.pairwise_mergeSort (le := fun x y : Int => decide (x ≤ y)) (fun a b c h1 h2 => by simp at *; omega) (fun a b => by simp; omega) xs
    exact this.imp (fun h => by simpa using h)
  obtain ⟨h1, h2, _⟩ := compact_part _ hs _ (Nat.le_refl _)
  refine ⟨h1, fun x => ?_⟩
  unfold compact
  rw [h2, List.take_length, List.mem_mergeSort]

/-- Places as whole numbers. -/
def zs (l : List Nat) : List Int := l.map fun (n : Nat) => (n : Int)
theorem zs_length (l : List Nat) : (zs l).length = l.length := by simp [zs]
theorem zs_ns (l : List Nat) : (zs l).map (Value.int .i64) = ns l := by simp [zs, ns]
theorem zs_inj : ∀ {a b : List Nat}, zs a = zs b → a = b
  | [], [], _ => rfl
  | x :: a, y :: b, h => by
    simp only [zs, List.map_cons, List.cons.injEq] at h
    rw [zs_inj (a := a) (b := b) h.2, show x = y by omega]
  | [], _ :: _, h => by simp [zs] at h
  | _ :: _, [], h => by simp [zs] at h
theorem distinct_row {r d : List Nat} (hd : d.Pairwise (· < ·)) (hm : ∀ x, x ∈ d ↔ x ∈ r) : compact ((zs r).mergeSort fun x y => decide (x ≤ y)) = zs d := by
  refine (compact_sorted (zs r)).unique ⟨?_, fun x => ?_⟩
  · unfold zs
    rw [List.pairwise_map]
    exact hd.imp (fun h => by omega)
  · simp only [zs, List.mem_map]
    constructor
    · rintro ⟨n, hn, rfl⟩; exact ⟨n, (hm n).1 hn, rfl⟩
    · rintro ⟨n, hn, rfl⟩; exact ⟨n, (hm n).2 hn, rfl⟩
def RowZ (w : World) (N : Nat) (v : Value) (xs : List Int) : Prop := w.ownsRow N 3 1 v xs.length (xs.map (Value.int .i64))
theorem RowZ.of {w : World} {N : Nat} {v : Value} {r : List Nat} (h : RowI w N v r) : RowZ w N v (zs r) := by
  unfold RowZ; rw [zs_ns, zs_length]; exact h
theorem RowZ.to {w : World} {N : Nat} {v : Value} {r : List Nat} (h : RowZ w N v (zs r)) : RowI w N v r := by
  unfold RowZ at h; rw [zs_ns, zs_length] at h; exact h
/-- slices.Clone. -/
theorem clone_ints {w : World} {ok : Nat → Prop} {A : Option Addr} {r : List Nat} {c : Nat} (h : IntsAt w ok A r) (hl : r.length ≤ 100000) : Calls Tryd.prog 67 #[.slice A r.length c] w fun e w' => ∃ v, e = .returned v ∧ RowI w' w.heap.size v r ∧ Below w.heap.size w w' := by
  by_cases h0 : 0 < r.length
  · obtain ⟨b, o, rfl, -, hc⟩ := h.2 h0
    refine (Tryd.slices_Clone_int b o r.length c (zs r) w (by rw [zs_length]; exact Nat.le_refl _) (by omega) (fun j hj => by
      rw [zs_length] at hj
      rw [hc j _ (List.getElem?_eq_getElem hj)]
      simp [zs, hj])).mono ?_
    rintro e w' ⟨v, rfl, hv, -, hb⟩
    refine ⟨v, rfl, ?_, hb⟩
    rw [show (zs r).take r.length = zs r from List.take_of_length_le (by rw [zs_length]; exact Nat.le_refl _), zs_ns] at hv
    exact hv
  · obtain rfl := List.eq_nil_of_length_eq_zero (show r.length = 0 by omega)
    cases A with
    | none =>
      refine (Tryd.slices_Clone_int_nil 0 c w).mono ?_
      rintro e w' ⟨rfl, rfl⟩
      exact ⟨_, rfl, (own_nil _ _ _ _ : World.ownsRow _ _ 3 1 (.slice none 0 0) 0 []), Below.refl _ _⟩
    | some a =>
      refine (Tryd.slices_Clone_int_zero a c w).mono ?_
      rintro e w' ⟨v, rfl, hv, -, hb⟩
      exact ⟨v, rfl, hv, hb⟩
section
variable {w : World} {g n : Nat} {e : TypeId} {os : Array Obj}
theorem heap_sorted_i {cur : Array Value} {fr : Nat × Nat} (d : Array Int) (hb : w.heap[g]? = some (.cells cur e fr)) :
    (grow (putRow (Value.int .i64) (Sort.ahead w n) g 0 d) os).heap[g]? = some (.cells (putCells (Value.int .i64) 0 d cur) e fr) := by
  have hg : g < w.heap.size := (Array.getElem?_eq_some_iff.1 hb).1
  rw [heap_grow_old _ _ (by simpa using hg)]
  simp [putRow, mapBlock, Sort.ahead, Array.getElem?_modify, hb, onCells]
theorem grownBy_sorted_i (d : Array Int) : w.grownBy (grow (putRow (Value.int .i64) (Sort.ahead w n) g 0 d) os) (some g) := by
  refine ⟨rfl, rfl, rfl, by simp, fun k hk hne => ?_⟩
  rw [heap_grow_old _ _ (by simpa using hk)]
  have : g ≠ k := fun e => hne (by rw [e])
  simp [putRow, mapBlock, Sort.ahead, Array.getElem?_modify, this]
theorem take_putCells_i (cur : Array Value) (ts : List Int) (h : ts.length ≤ cur.size) : (putCells (Value.int .i64) 0 ts.toArray cur).toList.take ts.length = ts.map (Value.int .i64) := by
  apply List.ext_getElem?
  intro j
  by_cases hj : j < ts.length
  · rw [List.getElem?_take_of_lt hj, Array.getElem?_toList]
    simp [putCells, hj, show j < cur.size by omega]
  · rw [List.getElem?_take_eq_none (by omega), List.getElem?_eq_none (by simp; omega)]
theorem holds_i {cur : Array Value} {xs : List Int} (hb : w.heap[g]? = some (.cells cur e (0, 0))) (ht : cur.toList.take xs.length = xs.map (Value.int .i64)) : Holds (Value.int .i64) w g 0 xs.toArray := by
  intro j hj
  have hj' : j < xs.length := by simpa using hj
  refine ⟨?_, by simp [World.frozen?, hb]⟩
  have h1 : (cur.toList.take xs.length)[j]? = (xs.map (Value.int .i64))[j]? := by rw [ht]
  rw [List.getElem?_take_of_lt hj'] at h1
  simp only [World.cell?, hb, Nat.zero_add]
  simp only [Option.isSome_none, Bool.false_eq_true, if_false]
  rw [← Array.getElem?_toList, h1]
  simp [hj']
/-- The same row, with other numbers in it. -/
theorem put_z {N cap m : Nat} {xs ts us : List Int} {cur : Array Value} (hg : N ≤ g) (hb : w.heap[g]? = some (.cells cur 3 (0, 0))) (h1 : xs.length ≤ cap) (h2 : cap ≤ maxLen) (h3 : cur.size = cap * 1) (hl : (ts ++ us).length = xs.length) :
    RowZ (grow (putRow (Value.int .i64) (Sort.ahead w n) g 0 (ts ++ us).toArray) os) N (.slice (some ⟨g, 0, none⟩) ts.length cap) ts := by
  refine ⟨by simp, .inr ⟨g, cap, _, rfl, hg, heap_sorted_i _ hb, by rw [List.length_append] at hl; omega, h2, by simp [putCells, h3], ?_⟩⟩
  have h4 := take_putCells_i cur (ts ++ us) (by omega)
  rw [Nat.mul_one]
  have h5 := congrArg (List.take ts.length) h4
  rw [List.take_take, Nat.min_eq_left (by rw [List.length_append]; omega), List.map_append, List.take_left' (by simp)] at h5
  exact h5
end
/-- slices.Sort. -/
theorem sort_ints {w : World} {N : Nat} {v : Value} {xs : List Int} (h : RowZ w N v xs) (hl : xs.length ≤ 100000) : Calls Tryd.prog 68 #[v] w fun e w' => e = .returned (.tuple #[]) ∧ RowZ w' N v (xs.mergeSort fun x y => decide (x ≤ y)) ∧ w.grownBy w' v.ownBlock := by
  by_cases h0 : 0 < xs.length
  · rcases h.2 with ⟨_, hn⟩ | ⟨g, cap, cur, rfl, hg, hh, h1, h2, h3, h4⟩
    · omega
    · rw [Nat.mul_one] at h4
      refine (Tryd.slices_Sort_int g 0 cap xs w (holds_i hh h4) (blk_lt hh) (by omega)).mono ?_
      rintro e w' ⟨rfl, n, os, rfl⟩
      refine ⟨rfl, ?_, grownBy_sorted_i _⟩
      have := put_z (w := w) (n := n) (os := os) (m := 0) (ts := xs.mergeSort fun x y => decide (x ≤ y)) (us := []) hg hh h1 h2 h3 (by simp)
      rw [List.append_nil, List.length_mergeSort] at this
      exact this
  · obtain rfl := List.eq_nil_of_length_eq_zero (show xs.length = 0 by omega)
    obtain ⟨A, c, rfl⟩ := own_slice h
    refine (Tryd.slices_Sort_int_none A c w).mono ?_
    rintro e w' ⟨rfl, rfl⟩
    exact ⟨rfl, by simpa using h, grown_of_below (Below.refl _ _) _⟩
/-- slices.Compact. -/
theorem compact_ints {w : World} {N : Nat} {v : Value} {xs : List Int} (h : RowZ w N v xs) (hl : xs.length ≤ 100000) : Calls Tryd.prog 69 #[v] w fun e w' => ∃ u, e = .returned u ∧ RowZ w' N u (compact xs) ∧ w.grownBy w' v.ownBlock := by
  by_cases h0 : 0 < xs.length
  · rcases h.2 with ⟨_, hn⟩ | ⟨g, cap, cur, rfl, hg, hh, h1, h2, h3, h4⟩
    · omega
    · rw [Nat.mul_one] at h4
      refine (Tryd.slices_Compact_int g 0 cap xs w (holds_i hh h4) (by omega) h1).mono ?_
      rintro e w' ⟨rfl, q, rfl⟩
      have hc := compact_length_le xs
      have h5 := put_z (w := w) (n := q) (os := #[]) (m := 0) (ts := compact xs) (us := List.replicate (xs.length - (compact xs).length) 0) hg hh h1 h2 h3 (by simp; omega)
      have h6 := grownBy_sorted_i (w := w) (n := q) (os := #[]) (g := g) (compact xs ++ List.replicate (xs.length - (compact xs).length) 0).toArray
      rw [grow_empty] at h5 h6
      exact ⟨_, rfl, h5, h6⟩
  · obtain rfl := List.eq_nil_of_length_eq_zero (show xs.length = 0 by omega)
    obtain ⟨A, c, rfl⟩ := own_slice h
    refine (Tryd.slices_Compact_int_empty A c w).mono ?_
    rintro e w' ⟨rfl, rfl⟩
    exact ⟨_, rfl, h, grown_of_below (Below.refl _ _) _⟩
end Go.Proofs.YtbaegfjoionojaaDoor.Qa
