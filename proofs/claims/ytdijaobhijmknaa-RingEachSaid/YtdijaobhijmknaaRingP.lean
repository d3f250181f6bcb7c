/- Plain facts on triples that rise, and on the search for the next one. -/
import Derived.Test.YtdijaobhijmknaaRingK
set_option linter.unusedSimpArgs false
set_option linter.unusedVariables false
namespace Go.Proofs.Ytdijaobhijmknaa.Rg
open Go Go.RowKit Go.Proofs.YtdijaobhijmknaaW.PrintWords

theorem lessB_iff (a b : Tri) : lessB a b = true ↔ a.s < b.s ∨ (a.s = b.s ∧ (a.p < b.p ∨ (a.p = b.p ∧ a.o < b.o))) := by
  unfold lessB
  by_cases c1 : a.s = b.s
  · by_cases c2 : a.p = b.p
    · by_cases c3 : a.o = b.o
      · simp [c1, c2, c3]
      · simp [c1, c2, c3]
    · simp [c1, c2]
  · simp [c1]
theorem lessB_trans {a b c : Tri} (h1 : lessB a b = true) (h2 : lessB b c = true) : lessB a c = true := by
  rw [lessB_iff] at *
  omega
theorem lessB_ne {a b : Tri} (h : lessB a b = true) : a ≠ b := by
  rintro rfl
  rw [lessB_iff] at h
  omega
theorem mayL_spec : ∀ ts : List Tri, mayL ts = true ↔ (∀ t ∈ ts, okT t = true) ∧ ts.Pairwise (fun a b => lessB a b = true)
  | [] => by simp [mayL]
  | [a] => by simp [mayL]
  | a :: b :: l => by
    rw [mayL]
    have ih := mayL_spec (b :: l)
    simp only [Bool.and_eq_true]
    rw [ih]
    constructor
    · rintro ⟨⟨h1, h2⟩, h3, h4⟩
      refine ⟨fun t ht => ?_, ?_⟩
      · rcases List.mem_cons.1 ht with rfl | ht
        · exact h1
        · exact h3 t ht
      · rw [List.pairwise_cons]
        refine ⟨fun t ht => ?_, h4⟩
        rcases List.mem_cons.1 ht with rfl | ht
        · exact h2
        · exact lessB_trans h2 ((List.pairwise_cons.1 h4).1 t ht)
    · rintro ⟨h1, h2⟩
      rw [List.pairwise_cons] at h2
      exact ⟨⟨h1 a (by simp), h2.1 b (by simp)⟩, fun t ht => h1 t (List.mem_cons_of_mem _ ht), h2.2⟩
theorem may_len {ts : List Tri} (h : mayB ts = true) : mayL ts = true ∧ ts.length ≤ 100 := by
  unfold mayB at h; simpa using h
theorem may_mk {ts : List Tri} (h : mayL ts = true) (hl : ts.length ≤ 100) : mayB ts = true := by
  unfold mayB; simp [h, hl]
theorem filter_one {f : Tri → Bool} {t : Tri} : ∀ {ts : List Tri}, ts.Pairwise (fun a b => lessB a b = true) → t ∈ ts → (∀ u ∈ ts, f u = true ↔ u = t) → ts.filter f = [t]
  | [], _, h, _ => by cases h
  | a :: l, hp, hm, hf => by
    rw [List.pairwise_cons] at hp
    by_cases c : a = t
    · subst c
      rw [List.filter_cons_of_pos ((hf a (by simp)).2 rfl)]
      congr 1
      rw [List.filter_eq_nil_iff]
      intro u hu h
      have := (hf u (List.mem_cons_of_mem _ hu)).1 h
      exact lessB_ne (hp.1 u hu) this.symm
    · rw [List.filter_cons_of_neg (fun h => c ((hf a (by simp)).1 h))]
      refine filter_one hp.2 ?_ (fun u hu => hf u (List.mem_cons_of_mem _ hu))
      rcases List.mem_cons.1 hm with e | h
      · exact absurd e.symm c
      · exact h
theorem matchB_iff (p t : Tri) : matchB p t = true ↔ (p.s = 0 ∨ p.s = t.s) ∧ (p.p = 0 ∨ p.p = t.p) ∧ (p.o = 0 ∨ p.o = t.o) := by
  unfold matchB; simp [and_assoc]
theorem match_self {t u : Tri} (h : okT t = true) : matchB t u = true ↔ u = t := by
  rw [okT_iff] at h
  rw [matchB_iff]
  constructor
  · rintro ⟨h1, h2, h3⟩
    cases t; cases u
    simp only [Tri.mk.injEq]
    simp only at *
    omega
  · rintro rfl
    simp
theorem allL_self {ts : List Tri} {t : Tri} (hm : mayB ts = true) (ht : t ∈ ts) : allL ts t = [t] := by
  obtain ⟨h1, h2⟩ := (mayL_spec ts).1 (may_len hm).1
  exact filter_one h2 ht (fun u _ => match_self (h1 t ht))
/-- The triple without its k-th one. -/
def without (ts : List Tri) (k : Nat) : List Tri := ts.take k ++ ts.drop (k + 1)
theorem without_may {ts : List Tri} (k : Nat) (hm : mayB ts = true) : mayB (without ts k) = true := by
  obtain ⟨h0, hl⟩ := may_len hm
  obtain ⟨h1, h2⟩ := (mayL_spec ts).1 h0
  have hs : (without ts k).Sublist ts := by
    unfold without
    conv => rhs; rw [← List.take_append_drop k ts]
    exact List.Sublist.append (List.Sublist.refl _) (by
      rw [show k + 1 = k + 1 from rfl, ← List.drop_drop]
      exact List.drop_sublist _ _)
  refine may_mk ((mayL_spec _).2 ⟨fun t ht => h1 t (hs.subset ht), h2.sublist hs⟩) (Nat.le_trans hs.length_le hl)
theorem without_count {ts : List Tri} {k : Nat} (p z : Tri) (hk : k < ts.length) : ((allL ts p).length : Int) = (allL (without ts k) p).length + (if matchB p (ts.getD k z) = true then 1 else 0) := by
  have e : ts = ts.take k ++ ts.getD k z :: ts.drop (k + 1) := by
    have e1 : ts.getD k z = ts[k] := by simp [List.getD, hk]
    rw [e1, ← List.drop_eq_getElem_cons hk, List.take_append_drop]
  have e2 : allL ts p = allL (ts.take k) p ++ (if matchB p (ts.getD k z) = true then [ts.getD k z] else []) ++ allL (ts.drop (k + 1)) p := by
    unfold allL
    conv => lhs; rw [e]
    rw [List.filter_append, List.filter_cons, List.append_assoc]
    by_cases c : matchB p (ts.getD k z) = true
    · rw [if_pos c, if_pos c]; rfl
    · rw [if_neg c, if_neg c]; rfl
  rw [e2]
  unfold without allL
  rw [List.filter_append]
  by_cases c : matchB p (ts.getD k z) = true
  · rw [if_pos c, if_pos c]; simp; omega
  · rw [if_neg c, if_neg c]; simp
/-- The least number of a column, by the law's own loop. -/
def bestL (col : Nat) (l : List Tri) : Int := l.foldl (fun b t => if b = 0 ∨ t.at col < b then t.at col else b) 0
theorem next_best_from {p : Tri} {v : Int} {col : Nat} : ∀ (ts : List Tri) (b : Int), (∀ t ∈ ts, v ≤ t.at col) →
    ts.foldl (betterT p v col) b = (allL ts p).foldl (fun b t => if b = 0 ∨ t.at col < b then t.at col else b) b
  | [], _, _ => rfl
  | t :: l, b, h => by
    unfold allL
    have hv := h t (by simp)
    rw [List.foldl_cons, List.filter_cons]
    have ih := next_best_from (p := p) (v := v) (col := col) l (betterT p v col b t) (fun u hu => h u (List.mem_cons_of_mem _ hu))
    rw [ih]
    unfold betterT allL
    by_cases c : matchB p t = true
    · rw [if_pos c, List.foldl_cons]
      by_cases d : b = 0 ∨ t.at col < b
      · rw [if_pos ⟨c, hv, d⟩, if_pos d]
      · rw [if_neg (fun h => d h.2.2), if_neg d]
    · rw [if_neg c, if_neg (fun h => c h.1)]
theorem next_best {ts : List Tri} {p : Tri} {v : Int} {col : Nat} (h : ∀ t ∈ ts, v ≤ t.at col) : nextT ts p col v = bestL col (allL ts p) := next_best_from ts 0 h
theorem ok_at {t : Tri} (h : okT t = true) (col : Nat) (hc : col < 3) : 1 ≤ t.at col ∧ t.at col ≤ 1000 := by
  rw [okT_iff] at h
  have : col = 0 ∨ col = 1 ∨ col = 2 := by omega
  rcases this with rfl | rfl | rfl
  · exact h.1
  · exact h.2.1
  · exact h.2.2
theorem may_ok {ts : List Tri} (hm : mayB ts = true) : ∀ t ∈ ts, okT t = true := ((mayL_spec ts).1 (may_len hm).1).1
theorem next_far_from {p : Tri} {v : Int} {col : Nat} : ∀ (ts : List Tri) (b : Int), (∀ t ∈ ts, t.at col < v) → ts.foldl (betterT p v col) b = b
  | [], _, _ => rfl
  | t :: l, b, h => by
    rw [List.foldl_cons]
    have hv := h t (by simp)
    have : betterT p v col b t = b := by unfold betterT; rw [if_neg (fun h => by omega)]
    rw [this]
    exact next_far_from l b (fun u hu => h u (List.mem_cons_of_mem _ hu))
/-- What the search for the next one finds. -/
theorem next_spec_from {p : Tri} {v : Int} {col : Nat} : ∀ (ts : List Tri) (b : Int), (∀ t ∈ ts, 1 ≤ t.at col) → (b = 0 ∨ (1 ≤ b ∧ v ≤ b)) →
    (ts.foldl (betterT p v col) b = 0 ∧ b = 0 ∧ ∀ t ∈ allL ts p, t.at col < v) ∨
    (1 ≤ ts.foldl (betterT p v col) b ∧ v ≤ ts.foldl (betterT p v col) b ∧ (ts.foldl (betterT p v col) b = b ∨ ∃ t ∈ allL ts p, t.at col = ts.foldl (betterT p v col) b) ∧ (b ≠ 0 → ts.foldl (betterT p v col) b ≤ b) ∧ ∀ t ∈ allL ts p, v ≤ t.at col → ts.foldl (betterT p v col) b ≤ t.at col)
  | [], b, _, hb => by
    rcases hb with rfl | hb
    · exact .inl ⟨rfl, rfl, fun t ht => by cases ht⟩
    · exact .inr ⟨hb.1, hb.2, .inl rfl, fun _ => Int.le_refl _, fun t ht => by cases ht⟩
  | t :: l, b, h, hb => by
    have h1 := h t (by simp)
    have h2 : ∀ u ∈ l, 1 ≤ u.at col := fun u hu => h u (List.mem_cons_of_mem _ hu)
    rw [List.foldl_cons]
    by_cases c : matchB p t = true ∧ v ≤ t.at col ∧ (b = 0 ∨ t.at col < b)
    · have e : betterT p v col b t = t.at col := by unfold betterT; rw [if_pos c]
      rw [e]
      have ha : allL (t :: l) p = t :: allL l p := by unfold allL; rw [List.filter_cons_of_pos c.1]
      rw [ha]
      rcases next_spec_from (p := p) (v := v) l (t.at col) h2 (.inr ⟨h1, c.2.1⟩) with ⟨g1, g2, _⟩ | ⟨g1, g2, g3, g4, g5⟩
      · omega
      · refine .inr ⟨g1, g2, ?_, fun hne => ?_, fun u hu hv => ?_⟩
        · rcases g3 with g3 | ⟨u, hu, he⟩
          · exact .inr ⟨t, by simp, g3.symm⟩
          · exact .inr ⟨u, List.mem_cons_of_mem _ hu, he⟩
        · have hx := g4 (by omega)
          have hy : t.at col < b := by exact c.2.2.resolve_left hne
          exact Int.le_of_lt (Int.lt_of_le_of_lt hx hy)
        · rcases List.mem_cons.1 hu with rfl | hu
          · exact g4 (by omega)
          · exact g5 u hu hv
    · have e : betterT p v col b t = b := by unfold betterT; rw [if_neg c]
      rw [e]
      have hall : ∀ u ∈ allL (t :: l) p, u ∈ allL l p ∨ (u = t ∧ matchB p t = true) := by
        intro u hu
        unfold allL at hu
        rw [List.mem_filter] at hu
        rcases List.mem_cons.1 hu.1 with rfl | hm
        · exact .inr ⟨rfl, hu.2⟩
        · exact .inl (by unfold allL; exact List.mem_filter.2 ⟨hm, hu.2⟩)
      have hsub : ∀ u ∈ allL l p, u ∈ allL (t :: l) p := by
        intro u hu
        unfold allL at *
        rw [List.mem_filter] at *
        exact ⟨List.mem_cons_of_mem _ hu.1, hu.2⟩
      rcases next_spec_from (p := p) (v := v) l b h2 hb with ⟨g1, g2, g3⟩ | ⟨g1, g2, g3, g4, g5⟩
      · refine .inl ⟨g1, g2, fun u hu => ?_⟩
        rcases hall u hu with hu | ⟨rfl, hm⟩
        · exact g3 u hu
        · by_cases hv : v ≤ u.at col
          · exact absurd ⟨hm, hv, .inl g2⟩ c
          · omega
      · refine .inr ⟨g1, g2, ?_, g4, fun u hu hv => ?_⟩
        · rcases g3 with g3 | ⟨u, hu, he⟩
          · exact .inl g3
          · exact .inr ⟨u, hsub u hu, he⟩
        · rcases hall u hu with hu | ⟨rfl, hm⟩
          · exact g5 u hu hv
          · by_cases hb0 : b = 0
            · exact absurd ⟨hm, hv, .inl hb0⟩ c
            · have := g4 hb0
              by_cases hlt : u.at col < b
              · exact absurd ⟨hm, hv, .inr hlt⟩ c
              · omega
theorem next_spec {ts : List Tri} (p : Tri) (v : Int) {col : Nat} (hm : mayB ts = true) (hc : col < 3) :
    (nextT ts p col v = 0 ∧ ∀ t ∈ allL ts p, t.at col < v) ∨
    (1 ≤ nextT ts p col v ∧ v ≤ nextT ts p col v ∧ (∃ t ∈ allL ts p, t.at col = nextT ts p col v) ∧ ∀ t ∈ allL ts p, v ≤ t.at col → nextT ts p col v ≤ t.at col) := by
  rcases next_spec_from (p := p) (v := v) ts 0 (fun t ht => (ok_at (may_ok hm t ht) col hc).1) (.inl rfl) with ⟨g1, _, g3⟩ | ⟨g1, g2, g3, _, g5⟩
  · exact .inl ⟨g1, g3⟩
  · refine .inr ⟨g1, g2, ?_, g5⟩
    rcases g3 with g3 | g3
    · unfold nextT at *; omega
    · exact g3
end Go.Proofs.Ytdijaobhijmknaa.Rg
