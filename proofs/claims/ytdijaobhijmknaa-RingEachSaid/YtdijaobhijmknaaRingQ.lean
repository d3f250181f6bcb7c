/- Plain facts: the numbers of a column, each once; the search from one to the next. -/
import Derived.Test.YtdijaobhijmknaaRingP
import Derived.Maps.OwnSet
set_option linter.unusedSimpArgs false
set_option linter.unusedVariables false
namespace Go.Proofs.Ytdijaobhijmknaa.Rg
open Go Go.RowKit Go.Proofs.YtdijaobhijmknaaW.PrintWords

def vals (a : List Tri) (col : Nat) : List Int := a.map (fun t => t.at col)
def dedStep (acc : List Int) (x : Int) : List Int := if x ∈ acc then acc else acc ++ [x]
/-- Each once. -/
def ded (l : List Int) : List Int := l.foldl dedStep []
theorem mem_dedFrom (x : Int) : ∀ (l acc : List Int), x ∈ l.foldl dedStep acc ↔ x ∈ acc ∨ x ∈ l
  | [], acc => by simp
  | y :: l, acc => by
    rw [List.foldl_cons, mem_dedFrom x l]
    unfold dedStep
    by_cases c : y ∈ acc
    · rw [if_pos c, List.mem_cons]
      constructor
      · rintro (h | h)
        · exact .inl h
        · exact .inr (.inr h)
      · rintro (h | h | h)
        · exact .inl h
        · exact .inl (h ▸ c)
        · exact .inr h
    · rw [if_neg c, List.mem_append, List.mem_singleton, List.mem_cons, or_assoc]
theorem mem_ded (x : Int) (l : List Int) : x ∈ ded l ↔ x ∈ l := by unfold ded; rw [mem_dedFrom]; simp
theorem nodup_dedFrom : ∀ (l acc : List Int), acc.Nodup → (l.foldl dedStep acc).Nodup
  | [], acc, h => h
  | y :: l, acc, h => by
    rw [List.foldl_cons]
    refine nodup_dedFrom l _ ?_
    unfold dedStep
    by_cases c : y ∈ acc
    · rw [if_pos c]; exact h
    · rw [if_neg c, List.nodup_append]
      refine ⟨h, by simp, fun a ha b hb => ?_⟩
      rw [List.mem_singleton] at hb
      rintro rfl
      exact c (hb ▸ ha)
theorem nodup_ded (l : List Int) : (ded l).Nodup := nodup_dedFrom l [] List.nodup_nil
theorem len_dedFrom : ∀ (l acc : List Int), (l.foldl dedStep acc).length ≤ acc.length + l.length
  | [], acc => by simp
  | y :: l, acc => by
    rw [List.foldl_cons]
    refine Nat.le_trans (len_dedFrom l _) ?_
    unfold dedStep
    by_cases c : y ∈ acc
    · rw [if_pos c]; simp
    · rw [if_neg c]; simp; omega
theorem len_ded (l : List Int) : (ded l).length ≤ l.length := by have := len_dedFrom l []; unfold ded; simpa using this
/-- How many of them are below one. -/
def below_ (L : List Int) (v : Int) : Nat := (L.filter (fun x => decide (x < v))).length
theorem below_next {v : Int} : ∀ {L : List Int}, L.Nodup → (v ∈ L → below_ L (v + 1) = below_ L v + 1) ∧ (v ∉ L → below_ L (v + 1) = below_ L v)
  | [], _ => ⟨fun h => (List.not_mem_nil h).elim, fun _ => rfl⟩
  | x :: L, h => by
    rw [List.nodup_cons] at h
    obtain ⟨i1, i2⟩ := below_next (v := v) h.2
    unfold below_ at *
    rw [List.filter_cons, List.filter_cons]
    by_cases c : x = v
    · subst c
      have := i2 h.1
      refine ⟨fun _ => ?_, fun hn => absurd (by simp) hn⟩
      rw [if_pos (decide_eq_true (by omega)), if_neg (by simp), List.length_cons, this]
    · have c1 : (x < v + 1) = (x < v) := by simp; omega
      refine ⟨fun hm => ?_, fun hn => ?_⟩
      · have hm2 : v ∈ L := by
          rcases List.mem_cons.1 hm with e | hm
          · exact absurd e.symm c
          · exact hm
        have := i1 hm2
        simp only [c1]
        by_cases d : x < v
        · simp [d]; omega
        · simp [d]; omega
      · have hn2 : v ∉ L := fun hm => hn (List.mem_cons_of_mem _ hm)
        have := i2 hn2
        simp only [c1]
        by_cases d : x < v
        · simp [d]; omega
        · simp [d]; omega
theorem below_all {L : List Int} {v : Int} (h : ∀ x ∈ L, x < v) : below_ L v = L.length := by
  unfold below_; rw [List.filter_eq_self.2 (fun x hx => decide_eq_true (h x hx))]
theorem below_none {L : List Int} {v : Int} (h : ∀ x ∈ L, v ≤ x) : below_ L v = 0 := by
  unfold below_; rw [List.filter_eq_nil_iff.2 (fun x hx => by have := h x hx; simp; omega)]; rfl
theorem below_same {L : List Int} {v u : Int} (h : v ≤ u) (hx : ∀ x ∈ L, v ≤ x → u ≤ x) : below_ L u = below_ L v := by
  unfold below_
  congr 1
  refine List.filter_congr (fun x hm => ?_)
  have := hx x hm
  simp only [decide_eq_decide]
  constructor <;> intro hh <;> omega
theorem below_le (L : List Int) (v : Int) : below_ L v ≤ L.length := List.length_filter_le _ _
/-- Where the search stands. -/
def NextI (V : List Int) (v : Int) (n : Nat) : Prop := (v = 0 ∧ n = (ded V).length) ∨ (1 ≤ v ∧ v ∈ V ∧ n = below_ (ded V) v)
theorem mem_vals {a : List Tri} {col : Nat} {x : Int} : x ∈ vals a col ↔ ∃ t ∈ a, t.at col = x := by unfold vals; rw [List.mem_map]
theorem vals_len (a : List Tri) (col : Nat) : (vals a col).length = a.length := by unfold vals; rw [List.length_map]
theorem mem_allL {l : List Tri} {p t : Tri} : t ∈ allL l p ↔ t ∈ l ∧ matchB p t = true := by unfold allL; rw [List.mem_filter]
theorem vals_ok {l : List Tri} (p : Tri) {col : Nat} (hm : mayB l = true) (hc : col < 3) : ∀ x ∈ vals (allL l p) col, 1 ≤ x ∧ x ≤ 1000 := by
  intro x hx
  obtain ⟨t, ht, rfl⟩ := mem_vals.1 hx
  exact ok_at (may_ok hm t (mem_allL.1 ht).1) col hc
theorem next_bd {l : List Tri} (p : Tri) (v : Int) {col : Nat} (hm : mayB l = true) (hc : col < 3) : 0 ≤ nextT l p col v ∧ nextT l p col v ≤ 1000 := by
  rcases next_spec p v hm hc with ⟨h, _⟩ | ⟨h1, _, ⟨t, ht, e⟩, _⟩
  · omega
  · have := vals_ok p hm hc _ (mem_vals.2 ⟨t, ht, e⟩)
    omega
theorem next_from {l : List Tri} (p : Tri) (v : Int) {col : Nat} (hm : mayB l = true) (hc : col < 3) : NextI (vals (allL l p) col) (nextT l p col v) (below_ (ded (vals (allL l p) col)) v) ∧ (nextT l p col v ≠ 0 → v ≤ nextT l p col v) := by
  rcases next_spec p v hm hc with ⟨h, h2⟩ | ⟨h1, h2, ⟨t, ht, e⟩, h3⟩
  · refine ⟨.inl ⟨h, below_all (fun x hx => ?_)⟩, fun hne => absurd h hne⟩
    obtain ⟨t, ht, e⟩ := mem_vals.1 ((mem_ded x _).1 hx)
    rw [← e]; exact h2 t ht
  · refine ⟨.inr ⟨h1, mem_vals.2 ⟨t, ht, e⟩, (below_same h2 (fun x hx hv => ?_)).symm⟩, fun _ => h2⟩
    obtain ⟨u, hu, e⟩ := mem_vals.1 ((mem_ded x _).1 hx)
    rw [← e] at hv ⊢
    exact h3 u hu hv
theorem next_first {l : List Tri} (p : Tri) {col : Nat} (hm : mayB l = true) (hc : col < 3) : NextI (vals (allL l p) col) (nextT l p col 0) 0 ∧ (nextT l p col 0 ≠ 0 → 0 < nextT l p col 0) := by
  obtain ⟨h1, h2⟩ := next_from p 0 hm hc
  have hz : below_ (ded (vals (allL l p) col)) 0 = 0 := below_none (fun x hx => by have := vals_ok p hm hc x ((mem_ded x _).1 hx); omega)
  rw [hz] at h1
  exact ⟨h1, fun hne => by have := h2 hne; omega⟩
theorem next_on {l : List Tri} (p : Tri) {v : Int} {n : Nat} {col : Nat} (hm : mayB l = true) (hc : col < 3) (h : NextI (vals (allL l p) col) v n) (hv : v ≠ 0) :
    NextI (vals (allL l p) col) (nextT l p col (v + 1)) (n + 1) ∧ (nextT l p col (v + 1) ≠ 0 → v < nextT l p col (v + 1)) := by
  rcases h with ⟨h, _⟩ | ⟨h1, h2, h3⟩
  · exact absurd h hv
  · obtain ⟨g1, g2⟩ := next_from p (v + 1) hm hc
    rw [(below_next (nodup_ded _)).1 ((mem_ded v _).2 h2), ← h3] at g1
    exact ⟨g1, fun hne => by have := g2 hne; omega⟩
theorem next_room {V : List Int} {v : Int} {n : Nat} (h : NextI V v n) : n ≤ V.length := by
  have := len_ded V
  rcases h with ⟨_, h⟩ | ⟨_, _, h⟩
  · omega
  · have := below_le (ded V) v; omega
theorem next_less {V : List Int} {v : Int} {n : Nat} (h : NextI V v n) (hv : v ≠ 0) : n < V.length := by
  have := len_ded V
  rcases h with ⟨h, _⟩ | ⟨_, h2, h⟩
  · exact absurd h hv
  · have e := (below_next (nodup_ded V)).1 ((mem_ded v V).2 h2)
    have := below_le (ded V) (v + 1)
    omega
def Tri.put (p : Tri) (col : Nat) (v : Int) : Tri := if col = 0 then ⟨v, p.p, p.o⟩ else if col = 1 then ⟨p.s, v, p.o⟩ else ⟨p.s, p.p, v⟩
theorem match_put {p t : Tri} {col : Nat} {v : Int} (hc : col < 3) (hm : matchB p t = true) (ht : t.at col = v) : matchB (p.put col v) t = true := by
  rw [matchB_iff] at *
  have : col = 0 ∨ col = 1 ∨ col = 2 := by omega
  rcases this with rfl | rfl | rfl <;> simp [Tri.put, Tri.at] at * <;> simp [ht, hm]
theorem match_at {p t : Tri} {col : Nat} (hc : col < 3) (hm : matchB p t = true) : p.at col = 0 ∨ p.at col = t.at col := by
  rw [matchB_iff] at hm
  have : col = 0 ∨ col = 1 ∨ col = 2 := by omega
  rcases this with rfl | rfl | rfl
  · exact hm.1
  · exact hm.2.1
  · exact hm.2.2
theorem count_put {l : List Tri} {p : Tri} {col : Nat} {v : Int} {n : Nat} (hc : col < 3) (h : NextI (vals (allL l p) col) v n) (hv : v ≠ 0) : 1 ≤ (allL l (p.put col v)).length ∧ (p.at col = 0 ∨ p.at col = v) := by
  rcases h with ⟨h, _⟩ | ⟨_, h2, _⟩
  · exact absurd h hv
  · obtain ⟨t, ht, e⟩ := mem_vals.1 h2
    obtain ⟨h3, h4⟩ := mem_allL.1 ht
    refine ⟨List.length_pos_of_mem (mem_allL.2 ⟨h3, match_put hc h4 e⟩), ?_⟩
    rw [← e]; exact match_at hc h4
/-- How many of them have a lower number there. -/
def lows (a : List Tri) (col : Nat) (v : Int) : Nat := (a.filter (fun t => decide (t.at col < v))).length
theorem put_match {p t : Tri} {col : Nat} {v : Int} (hc : col < 3) (hp : p.at col = 0) (hv : v ≠ 0) : matchB (p.put col v) t = (matchB p t && decide (t.at col = v)) := by
  rw [Bool.eq_iff_iff, Bool.and_eq_true, decide_eq_true_eq, matchB_iff, matchB_iff]
  have : col = 0 ∨ col = 1 ∨ col = 2 := by omega
  rcases this with rfl | rfl | rfl <;> simp [Tri.put, Tri.at, hv] at * <;> simp [hp] <;> constructor <;> intro h <;> simp_all
theorem count_parts {p : Tri} {col : Nat} {v : Int} (hc : col < 3) (hp : p.at col = 0) (hv : v ≠ 0) : ∀ l : List Tri, lows (allL l p) col v + (allL l (p.put col v)).length = lows (allL l p) col (v + 1)
  | [] => rfl
  | t :: l => by
    have ih := count_parts (p := p) (v := v) hc hp hv l
    unfold lows allL at *
    rw [List.filter_cons, List.filter_cons, put_match hc hp hv]
    by_cases c : matchB p t = true
    · rw [if_pos c, List.filter_cons, List.filter_cons]
      have h3 : t.at col < v ∨ t.at col = v ∨ v < t.at col := by omega
      rcases h3 with h | h | h
      · rw [if_pos (decide_eq_true h), if_pos (decide_eq_true (show t.at col < v + 1 by omega)), if_neg (by simp [c]; omega)]
        simp only [List.length_cons]; omega
      · rw [if_neg (by simp; omega), if_pos (decide_eq_true (show t.at col < v + 1 by omega)), if_pos (by simp [c, h])]
        simp only [List.length_cons]; omega
      · rw [if_neg (by simp; omega), if_neg (by simp; omega), if_neg (by simp [c]; omega)]
        exact ih
    · rw [if_neg c, if_neg (by simp [c])]
      exact ih
theorem lows_all {a : List Tri} {col : Nat} {v : Int} (h : ∀ t ∈ a, t.at col < v) : lows a col v = a.length := by
  unfold lows; rw [List.filter_eq_self.2 (fun x hx => decide_eq_true (h x hx))]
theorem lows_same {a : List Tri} {col : Nat} {v u : Int} (h : v ≤ u) (hx : ∀ t ∈ a, v ≤ t.at col → u ≤ t.at col) : lows a col u = lows a col v := by
  unfold lows
  congr 1
  refine List.filter_congr (fun x hm => ?_)
  have := hx x hm
  simp only [decide_eq_decide]
  constructor <;> intro hh <;> omega
theorem lows_none {a : List Tri} {col : Nat} {v : Int} (h : ∀ t ∈ a, v ≤ t.at col) : lows a col v = 0 := by
  unfold lows; rw [List.filter_eq_nil_iff.2 (fun x hx => by have := h x hx; simp; omega)]; rfl
/-- The sum of the counts so far. -/
def SumI (a : List Tri) (col : Nat) (v : Int) (s : Nat) : Prop := (v = 0 ∧ s = a.length) ∨ (v ≠ 0 ∧ s = lows a col v)
theorem sum_from {l : List Tri} (p : Tri) (v : Int) {col : Nat} (hm : mayB l = true) (hc : col < 3) : SumI (allL l p) col (nextT l p col v) (lows (allL l p) col v) := by
  rcases next_spec p v hm hc with ⟨h, h2⟩ | ⟨h1, h2, _, h3⟩
  · exact .inl ⟨h, lows_all h2⟩
  · exact .inr ⟨by omega, (lows_same h2 h3).symm⟩
theorem sum_first {l : List Tri} (p : Tri) {col : Nat} (hm : mayB l = true) (hc : col < 3) : SumI (allL l p) col (nextT l p col 0) 0 := by
  have h := sum_from p 0 hm hc
  rwa [lows_none (fun t ht => by have := ok_at (may_ok hm t (mem_allL.1 ht).1) col hc; omega)] at h
theorem sum_on {l : List Tri} {p : Tri} {v : Int} {s : Nat} {col : Nat} (hm : mayB l = true) (hc : col < 3) (hp : p.at col = 0) (h : SumI (allL l p) col v s) (hv : v ≠ 0) : SumI (allL l p) col (nextT l p col (v + 1)) (s + (allL l (p.put col v)).length) := by
  rcases h with ⟨h, _⟩ | ⟨_, h⟩
  · exact absurd h hv
  · rw [h, count_parts hc hp hv l]
    exact sum_from p (v + 1) hm hc
theorem count_le {l : List Tri} {p : Tri} {col : Nat} {v : Int} {s : Nat} (hc : col < 3) (hp : p.at col = 0) (hv : v ≠ 0) (h : SumI (allL l p) col v s) : s + (allL l (p.put col v)).length ≤ l.length := by
  rcases h with ⟨h, _⟩ | ⟨_, h⟩
  · exact absurd h hv
  · rw [h, count_parts hc hp hv l]
    exact Nat.le_trans (List.length_filter_le _ _) (allL_len l p)
/-- The set of the numbers has so many. -/
theorem set_size (u : DataW Unit) (V : List Int) : Maps.size (Maps.setOf u (V.map (Lit.int .i64))) = (ded V).length := by
  have hk : ∀ x ∈ V.map (Lit.int .i64), WideAt.IsKeyLit x := by
    intro x hx
    obtain ⟨y, _, rfl⟩ := List.mem_map.1 hx
    trivial
  rw [Maps.size_setOf u _ hk]
  have hstep : ∀ (l acc : List Int), (l.map (Lit.int .i64)).foldl Maps.addKey (acc.map (Lit.int .i64)) = (l.foldl dedStep acc).map (Lit.int .i64) := by
    intro l
    induction l with
    | nil => intro acc; rfl
    | cons y l ih =>
      intro acc
      rw [List.map_cons, List.foldl_cons, List.foldl_cons, ← ih]
      congr 1
      unfold Maps.addKey dedStep
      have e : (acc.map (Lit.int .i64)).any (fun z => z.sameKey (Lit.int .i64 y)) = decide (y ∈ acc) := by
        rw [Bool.eq_iff_iff, List.any_eq_true, decide_eq_true_eq]
        constructor
        · rintro ⟨z, hz, hs⟩
          obtain ⟨x, hx, rfl⟩ := List.mem_map.1 hz
          by_cases c : x = y
          · exact c ▸ hx
          · rw [Maps.sameKey_ne (by simpa using c)] at hs; cases hs
        · intro hy
          refine ⟨_, List.mem_map.2 ⟨y, hy, rfl⟩, WideAt.sameKey_self ?_⟩
          trivial
      rw [e]
      by_cases c : y ∈ acc
      · simp [c]
      · simp [c]
  have := hstep V []
  rw [List.map_nil] at this
  rw [this, List.length_map]; rfl
end Go.Proofs.Ytdijaobhijmknaa.Rg
