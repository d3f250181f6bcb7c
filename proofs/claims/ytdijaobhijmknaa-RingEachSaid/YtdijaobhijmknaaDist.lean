/- slices.Sort and slices.Compact on a row of whole numbers of the call's own; the walk of wave.Distinct. -/
import Derived.Test.YtdijaobhijmknaaSortM
import Derived.Test.YtdijaobhijmknaaWaveb
set_option linter.unusedSimpArgs false
set_option linter.unusedVariables false
namespace Go.Proofs.Ytdijaobhijmknaa.Wv
open Go.RowKit Go.Proofs.YtdijaobhijmknaaW.PrintWords Go.Proofs.YtdijaobhijmknaaW.PrintLast Go.Proofs.YtdijaobhijmknaaW.PrintMore Go.Proofs.Ytdijaobhijmknaa.Bs Go.Proofs.Ytdijaobhijmknaa.PM Go.Proofs.Ytdijaobhijmknaa.Pk Go.Proofs.Ytdijaobhijmknaa.WM Go.Proofs.Ytdijaobhijmknaa.SM Go.Sort Go.Lib
attribute [local go_sem] max2_int min2_int max_two min_two

section
variable {w : World} {base g cap m n : Nat} {e : TypeId} {os : Array Obj} {xs : List Int} {ok : Nat → Prop}
theorem own_parts (h : (Kd.int .i64).R e w base ok (.slice (some ⟨g, 0, none⟩) m cap) xs) (hp : 0 < xs.length) :
    m = xs.length ∧ ∃ cur : Array Value, base ≤ g ∧ w.heap[g]? = some (.cells cur e (0, 0)) ∧ xs.length ≤ cap ∧ cap ≤ maxLen ∧ cur.size = cap * 1 ∧ cur.toList.take (xs.length * 1) = xs.map (Value.int .i64) := by
  have hm := (Kd.R_reads' h).1
  obtain ⟨h1, h2⟩ := Kd.own_of_R h
  rcases h2 with ⟨h0, _⟩ | ⟨g', cap', cur, hv, hbase, hb, a1, a2, a3, a4⟩
  · cases h0
  · cases hv
    exact ⟨hm, cur, hbase, hb, a1, a2, a3, a4⟩
theorem holds_own (h : (Kd.int .i64).R e w base ok (.slice (some ⟨g, 0, none⟩) m cap) xs) (hp : 0 < xs.length) : Holds (Value.int .i64) w g 0 xs.toArray := by
  intro j hj
  have hj' : j < xs.length := by simpa using hj
  obtain ⟨hc, hf⟩ := at_own h j (by have := (Kd.R_reads' h).1; omega)
  rw [Nat.zero_add]
  refine ⟨?_, hf⟩
  rw [hc, rd_nat]
  simp [hj']
theorem heap_sorted_i {cur : Array Value} {fr : Nat × Nat} (d : Array Int) (hb : w.heap[g]? = some (.cells cur e fr)) :
    (grow (putRow (Value.int .i64) (Sort.ahead w n) g 0 d) os).heap[g]? = some (.cells (putCells (Value.int .i64) 0 d cur) e fr) := by
  have hg : g < w.heap.size := (Array.getElem?_eq_some_iff.1 hb).1
  rw [heap_grow_old _ _ (by simpa using hg)]
  simp [putRow, mapBlock, Sort.ahead, Array.getElem?_modify, hb, onCells]
theorem grownBy_sorted_i (d : Array Int) : w.grownBy (grow (putRow (Value.int .i64) (Sort.ahead w n) g 0 d) os) (some g) := by
  refine ⟨rfl, rfl, rfl, by simp, fun k hk hne => ?_⟩
  rw [heap_grow_old _ _ (by simpa using hk)]
  have : g ≠ k := fun e => hne (by rw [e])
  simp [putRow, mapBlock, Sort.ahead, Array.getElem?_modify, this]
theorem take_putCells_i (cur : Array Value) (ts : List Int) (h : ts.length ≤ cur.size) : (putCells (Value.int .i64) 0 ts.toArray cur).toList.take ts.length = ts.map (Value.int .i64) := by
  apply List.ext_getElem?
  intro j
  by_cases hj : j < ts.length
  · rw [List.getElem?_take_of_lt hj, Array.getElem?_toList]
    simp [putCells, hj, show j < cur.size by omega]
  · rw [List.getElem?_take_eq_none (by omega), List.getElem?_eq_none (by simp; omega)]
theorem put_R (h : (Kd.int .i64).R e w base ok (.slice (some ⟨g, 0, none⟩) m cap) xs) (hp : 0 < xs.length) (ts : List Int) (hl : ts.length = xs.length) :
    (Kd.int .i64).R e (grow (putRow (Value.int .i64) (Sort.ahead w n) g 0 ts.toArray) os) base ok (.slice (some ⟨g, 0, none⟩) m cap) ts := by
  obtain ⟨hm, cur, hbase, hb, a1, a2, a3, a4⟩ := own_parts h hp
  have hok := h.1
  refine Kd.R_of_own ?_ (fun k hk => hok k hk)
  have : m = ts.length := by omega
  subst this
  refine ⟨by simp [encs], .inr ⟨g, cap, _, rfl, hbase, heap_sorted_i _ hb, by omega, a2, by simp [putCells, a3], ?_⟩⟩
  rw [Nat.mul_one]
  exact take_putCells_i cur ts (by omega)
theorem put_below {W : World} (h : (Kd.int .i64).R e w base ok (.slice (some ⟨g, 0, none⟩) m cap) xs) (hp : 0 < xs.length) (hb : Below W.heap.size W w) (hbase : W.heap.size ≤ base) (d : Array Int) :
    Below W.heap.size W (grow (putRow (Value.int .i64) (Sort.ahead w n) g 0 d) os) := by
  obtain ⟨hm, cur, hg, _⟩ := own_parts h hp
  exact hb.grown (grownBy_sorted_i d) hb.size (fun j hj => by cases hj; omega)
end
/-- slices.Sort of a row of the call's own. -/
theorem sort_any {w : World} {base : Nat} {v : Value} {xs : List Int} {e : TypeId} (h : (Kd.int .i64).R e w base (fun _ => True) v xs) (hlen : xs.length ≤ 100000) (hbase : base ≤ w.heap.size) :
    Calls Try.prog 75 #[v] w fun e' w' => e' = .returned (.tuple #[]) ∧ (Kd.int .i64).R e w' base (fun _ => True) v (xs.mergeSort fun x y => decide (x ≤ y)) ∧ ∀ W : World, Below W.heap.size W w → W.heap.size ≤ base → Below W.heap.size W w' := by
  rcases Nat.eq_zero_or_pos xs.length with h0 | hp
  · have hx : xs = [] := List.eq_nil_of_length_eq_zero h0
    subst hx
    obtain ⟨A, c, rfl⟩ := Kd.R_slice h
    refine (Try.slices_Sort_int_none A c w).mono ?_
    rintro e' w' ⟨rfl, rfl⟩
    have e0 : ([] : List Int).mergeSort (fun x y => decide (x ≤ y)) = [] := by simp
    rw [e0]
    exact ⟨rfl, h, fun W hb _ => hb⟩
  · obtain ⟨g, cap, rfl, hg1, hg2, cells, hcells⟩ := Kd.R_form h hp
    refine (Try.slices_Sort_int g 0 cap xs w (holds_own h hp) hg2 (by omega)).mono ?_
    rintro e' w' ⟨rfl, n, os, rfl⟩
    exact ⟨rfl, put_R h hp _ (List.length_mergeSort _), fun W hb hbb => put_below h hp hb hbb _⟩
/-- slices.Compact of a row of the call's own. -/
theorem compact_any {w : World} {base : Nat} {v : Value} {xs : List Int} {e : TypeId} (h : (Kd.int .i64).R e w base (fun _ => True) v xs) (hlen : xs.length ≤ 100000) (hbase : base ≤ w.heap.size) :
    Calls Try.prog 76 #[v] w fun e' w' => ∃ u, e' = .returned u ∧ (Kd.int .i64).R e w' base (fun _ => True) u (Lib.compact xs) ∧ ∀ W : World, Below W.heap.size W w → W.heap.size ≤ base → Below W.heap.size W w' := by
  rcases Nat.eq_zero_or_pos xs.length with h0 | hp
  · have hx : xs = [] := List.eq_nil_of_length_eq_zero h0
    subst hx
    obtain ⟨A, c, rfl⟩ := Kd.R_slice h
    refine (Try.slices_Compact_int_empty A c w).mono ?_
    rintro e' w' ⟨rfl, rfl⟩
    exact ⟨_, rfl, h, fun W hb _ => hb⟩
  · obtain ⟨g, cap, rfl, hg1, hg2, cells, hcells⟩ := Kd.R_form h hp
    obtain ⟨hm, cur, hbs, hb, a1, a2, a3, a4⟩ := own_parts h hp
    have hcl := compact_length_le xs
    refine (Try.slices_Compact_int g 0 cap xs w (holds_own h hp) (by omega) a1).mono ?_
    rintro e' w' ⟨rfl, q, rfl⟩
    have hl : (Lib.compact xs ++ List.replicate (xs.length - (Lib.compact xs).length) 0).length = xs.length := by simp; omega
    have hR := put_R (n := q) (os := #[]) h hp _ hl
    rw [grow_empty] at hR
    have hR2 := Kd.R_take hR (m := (Lib.compact xs).length) (by rw [hl]; exact hcl)
    rw [List.take_left] at hR2
    refine ⟨_, rfl, hR2, fun W hb hbb => ?_⟩
    have := put_below (n := q) (os := #[]) h hp hb hbb (Lib.compact xs ++ List.replicate (xs.length - (Lib.compact xs).length) 0).toArray
    rwa [grow_empty] at this
/-- Distinct: all numbers of what part tells, each once, rising, in new memory. -/
theorem distinct_of {v : Value} {w : World} {xs : List Int} (hx : xs.length ≤ 1000) (a b : Int)
    (hp : Calls Try.prog 65 #[v, .int .i64 a, .int .i64 b] w fun e w' => w = w' ∧ ∃ A c, e = .returned (.slice A xs.length c) ∧ xs.length ≤ c ∧ Kd.C (Kd.int .i64) w A xs.length xs) :
    Calls Try.prog 58 #[v, .int .i64 a, .int .i64 b] w fun e w' => ∃ u d, e = .returned u ∧ IsDistinct xs d ∧ d.length ≤ xs.length ∧ (Kd.int .i64).R 3 w' w.heap.size (fun _ => True) u d ∧ Below w.heap.size w w' := by
  have C1 := Aside0.mk hp
  have HD := Aside0.mk (compact_sorted xs)
  have HDL : Aside0 ((Lib.compact (xs.mergeSort fun x y => decide (x ≤ y))).length ≤ xs.length) := ⟨by
    have := compact_length_le (xs.mergeSort fun x y => decide (x ≤ y))
    rw [List.length_mergeSort] at this
    exact this⟩
  clear hp
  go_enter Try.func58, Try.ntmps58
  go_wp2_with (first
    | (go_at_call 65; (with_reducible refine C1.out.mono ?_); rintro e w1 ⟨rfl, A, c, rfl, hc, hr⟩; have C2 := Aside0.mk (clone_any (n := xs.length) (l := xs) rfl A c w hr (by omega)); clear hr)
    | (go_at_call 64; (with_reducible refine C2.out.mono ?_); rintro e w2 ⟨v2, rfl, hv, hb⟩; have HB := Aside0.mk hb; have C3 := Aside0.mk (sort_any hv (by omega) hb.size); clear hv hb)
    | (go_at_call 75; (with_reducible refine C3.out.mono ?_); rintro e w3 ⟨rfl, hv, hb⟩; have n1 := Aside0.mk (hb w HB.out (Nat.le_refl _)); clear HB; have HB := n1; clear n1; have C4 := Aside0.mk (compact_any hv (by rw [List.length_mergeSort]; omega) HB.out.size); clear hv hb)
    | (go_at_call 76; (with_reducible refine C4.out.mono ?_); rintro e w4 ⟨u, rfl, hv, hb⟩; have n1 := Aside0.mk (hb w HB.out (Nat.le_refl _)); clear HB; have HB := n1; clear n1; have HV := Aside0.mk hv; clear hv hb))
  go_ret
  exact ⟨u, _, rfl, HD.out, HDL.out, HV.out, HB.out⟩
theorem distinct_any {v : Value} {l : List Int} {w : World} (h : IsWave w v l) (a b : Int) (hlen : l.length ≤ 1000) :
    Calls Try.prog 58 #[v, .int .i64 a, .int .i64 b] w fun e w' => ∃ u d, e = .returned u ∧ IsDistinct (cutI l a b) d ∧ d.length ≤ (cutI l a b).length ∧ (Kd.int .i64).R 3 w' w.heap.size (fun _ => True) u d ∧ Below w.heap.size w w' :=
  distinct_of (by have := cutI_length_le l a b; omega) a b (part_any h a b hlen)
theorem distinct_nil (w : World) (a b : Int) :
    Calls Try.prog 58 #[.pointer none, .int .i64 a, .int .i64 b] w fun e w' => ∃ u d, e = .returned u ∧ IsDistinct [] d ∧ d.length ≤ ([] : List Int).length ∧ (Kd.int .i64).R 3 w' w.heap.size (fun _ => True) u d ∧ Below w.heap.size w w' :=
  distinct_of (xs := []) (by simp) a b (part_nil' a b w)
end Go.Proofs.Ytdijaobhijmknaa.Wv
