/- The walks of package wave: Next, Select, New. -/
import Derived.Test.YtdijaobhijmknaaWave
import Derived.OpenShut
set_option linter.unusedSimpArgs false
set_option linter.unusedVariables false
namespace Go.Proofs.Ytdijaobhijmknaa.Wv
open Go.RowKit Go.Proofs.YtdijaobhijmknaaW.PrintWords Go.Proofs.YtdijaobhijmknaaW.PrintLast Go.Proofs.YtdijaobhijmknaaW.PrintMore Go.Proofs.Ytdijaobhijmknaa.Bs Go.Proofs.Ytdijaobhijmknaa.PM Go.Proofs.Ytdijaobhijmknaa.Pk Go.Proofs.Ytdijaobhijmknaa.WM
attribute [local go_sem] max2_int min2_int max_two min_two

theorem next_of {v : Value} {w : World} {xs : List Int} (hx : xs.length ≤ 1000) (a b lo : Int)
    (hp : Calls Try.prog 65 #[v, .int .i64 a, .int .i64 b] w fun e w' => w = w' ∧ ∃ A c, e = .returned (.slice A xs.length c) ∧ xs.length ≤ c ∧ Kd.C (Kd.int .i64) w A xs.length xs) :
    Calls Try.prog 44 #[v, .int .i64 a, .int .i64 b, .int .i64 lo] w fun e w' => e = .returned (.int .i64 (nextI xs lo)) ∧ w = w' := by
  have C1 := Aside0.mk hp
  clear hp
  go_enter Try.func44, Try.ntmps44
  go_wp2_with (first | (go_at_call 65; (with_reducible refine C1.out.mono ?_); rintro e w1 ⟨rfl, A, c, rfl, hc, hr⟩; have HR := Aside0.mk hr; clear hr))
  go_loop [9, 17] (fun x y => ∃ (i : Nat) (n : Int), x = .int .i64 n ∧ y = .int .i64 i ∧ i ≤ xs.length ∧ Aside0 (n = nextI (xs.take i) lo)) (fun _ y => xs.length - (intOf y).toNat)
  case atStart => exact ⟨0, -1, rfl, rfl, by omega, ⟨by simp [nextI]⟩⟩
  case round =>
    obtain ⟨i, n, rfl, rfl, hi_, HE⟩ := hrel
    by_cases hlt : i < xs.length
    · obtain ⟨ad, e1, hcell⟩ := at_arg HR.out i hlt
      cases e1
      have HS := Aside0.mk (nextI_step xs i hlt lo)
      by_cases h1 : lo ≤ rd xs i
      · by_cases h2 : n < 0
        · go_wp2
          go_round
          case rel => exact ⟨i + 1, rd xs i, by go_num, by go_num, by omega, ⟨by rw [HS.out, ← HE.out]; unfold better; rw [if_pos ⟨h1, .inl h2⟩]⟩⟩
          case measure => simp [intOf]; omega
        · by_cases h3 : rd xs i < n
          · go_wp2
            go_round
            case rel => exact ⟨i + 1, rd xs i, by go_num, by go_num, by omega, ⟨by rw [HS.out, ← HE.out]; unfold better; rw [if_pos ⟨h1, .inr h3⟩]⟩⟩
            case measure => simp [intOf]; omega
          · go_wp2
            go_round
            case rel => exact ⟨i + 1, n, by go_num, by go_num, by omega, ⟨by rw [HS.out, ← HE.out]; unfold better; rw [if_neg (fun h => by omega)]⟩⟩
            case measure => simp [intOf]; omega
      · go_wp2
        go_round
        case rel => exact ⟨i + 1, n, by go_num, by go_num, by omega, ⟨by rw [HS.out, ← HE.out]; unfold better; rw [if_neg (fun h => h1 h.1)]⟩⟩
        case measure => simp [intOf]; omega
    · have hin : i = xs.length := by omega
      subst hin
      go_wp2
      go_ret
      refine ⟨?_, rfl⟩
      have := HE.out
      rw [List.take_length] at this
      rw [← this]
      rfl
theorem next_any {v : Value} {l : List Int} {w : World} (h : IsWave w v l) (a b lo : Int) (hlen : l.length ≤ 1000) :
    Calls Try.prog 44 #[v, .int .i64 a, .int .i64 b, .int .i64 lo] w fun e w' => e = .returned (.int .i64 (nextI (cutI l a b) lo)) ∧ w = w' :=
  next_of (by have := cutI_length_le l a b; omega) a b lo (part_any h a b hlen)
theorem next_nil (w : World) (a b lo : Int) :
    Calls Try.prog 44 #[.pointer none, .int .i64 a, .int .i64 b, .int .i64 lo] w fun e w' => e = .returned (.int .i64 (-1)) ∧ w = w' :=
  next_of (xs := []) (by simp) a b lo (part_nil' a b w)
/-- The counter k goes down by one at each hit; it may wrap. -/
def downTo (k : Int) (j : Nat) : Int := wrap64 (k - j)
theorem down_zero {k : Int} {j : Nat} (h0 : -9223372036854775808 ≤ k) (h1 : k ≤ 9223372036854775807) (hj : j ≤ 1000) : downTo k j = 0 ↔ k - j = 0 := by unfold downTo wrap64; omega
theorem down_step {k : Int} {j : Nat} : wrap64 (downTo k j - 1) = downTo k (j + 1) := by unfold downTo wrap64; omega
theorem select_of {v : Value} {w : World} {xs : List Int} (hx : xs.length ≤ 1000) (x k n : Int) (h0 : -9223372036854775808 ≤ k) (h1 : k ≤ 9223372036854775807)
    (hl : Calls Try.prog 39 #[v] w fun e w' => e = .returned (.int .i64 n) ∧ w = w')
    (hp : Calls Try.prog 65 #[v, .int .i64 0, .int .i64 n] w fun e w' => w = w' ∧ ∃ A c, e = .returned (.slice A xs.length c) ∧ xs.length ≤ c ∧ Kd.C (Kd.int .i64) w A xs.length xs) :
    Calls Try.prog 42 #[v, .int .i64 x, .int .i64 k] w fun e w' => e = .returned (.int .i64 (selectI x k xs 0)) ∧ w = w' := by
  have C1 := Aside0.mk hp
  have C0 := Aside0.mk hl
  have hd0 : downTo k 0 = k := by unfold downTo wrap64; omega
  have HD0 := Aside0.mk hd0
  clear hp hl hd0
  go_enter Try.func42, Try.ntmps42
  go_wp2_with (first | (go_at_call 39; (with_reducible refine C0.out.mono ?_); rintro e w1 ⟨rfl, rfl⟩) | (go_at_call 65; (with_reducible refine C1.out.mono ?_); rintro e w1 ⟨rfl, A, c, rfl, hc, hr⟩; have HR := Aside0.mk hr; clear hr))
  go_loop [2, 14] (fun y z => ∃ i j : Nat, y = .int .i64 (downTo k j) ∧ z = .int .i64 i ∧ i ≤ xs.length ∧ j ≤ i ∧ Aside0 (selectI x (k - j) (xs.drop i) i = selectI x k xs 0)) (fun _ z => xs.length - (intOf z).toNat)
  case atStart => exact ⟨0, 0, by rw [HD0.out], rfl, by omega, by omega, ⟨by simp⟩⟩
  case round =>
    obtain ⟨i, j, rfl, rfl, hi_, hj, HE⟩ := hrel
    by_cases hlt : i < xs.length
    · obtain ⟨ad, e1, hcell⟩ := at_arg HR.out i hlt
      cases e1
      have HS : Aside0 (selectI x k xs 0 = if rd xs i = x then (if k - j = 0 then (i : Int) else selectI x (k - j - 1) (xs.drop (i + 1)) (i + 1)) else selectI x (k - j) (xs.drop (i + 1)) (i + 1)) := ⟨by
        rw [← HE.out, drop_rd xs i hlt]; rfl⟩
      by_cases h2 : rd xs i = x
      · have h3 : (rd xs (i : Int) != x) = false := by simp [h2]
        by_cases h4 : k - j = 0
        · have h5 : (downTo k j == 0) = true := by simp; exact (down_zero h0 h1 (by omega)).2 h4
          have H2 := Aside0.mk h2
          have H4 := Aside0.mk h4
          clear h2 h4
          go_wp2
          go_ret
          refine ⟨?_, rfl⟩
          rw [HS.out, if_pos H2.out, if_pos H4.out]
          rfl
        · have h5 : (downTo k j == 0) = false := by
            apply beq_eq_false_iff_ne.mpr
            intro h
            exact h4 ((down_zero h0 h1 (by omega)).1 h)
          have HST := Aside0.mk (down_step (k := k) (j := j))
          have H2 := Aside0.mk h2
          have H4 := Aside0.mk h4
          clear h2 h4
          go_wp2
          go_round
          case rel => exact ⟨i + 1, j + 1, by rw [← HST.out], by go_num, by omega, by omega, ⟨by rw [HS.out, if_pos H2.out, if_neg H4.out]; congr 1; omega⟩⟩
          case measure => simp [intOf]; omega
      · have h3 : (rd xs (i : Int) != x) = true := by simp [h2]
        have H2 := Aside0.mk h2
        clear h2
        go_wp2
        go_round
        case rel => exact ⟨i + 1, j, rfl, by go_num, by omega, by omega, ⟨by rw [HS.out, if_neg H2.out]; congr 1⟩⟩
        case measure => simp [intOf]; omega
    · have hin : i = xs.length := by omega
      subst hin
      go_wp2
      go_ret
      refine ⟨?_, rfl⟩
      have := HE.out
      rw [List.drop_length] at this
      rw [← this]
      rfl
theorem select_any {v : Value} {l : List Int} {w : World} (h : IsWave w v l) (x k : Int) (hlen : l.length ≤ 1000) (h0 : -9223372036854775808 ≤ k) (h1 : k ≤ 9223372036854775807) :
    Calls Try.prog 42 #[v, .int .i64 x, .int .i64 k] w fun e w' => e = .returned (.int .i64 (selectI x k l 0)) ∧ w = w' := by
  have e : cutI l 0 (l.length : Int) = l := by unfold cutI; simp
  have hp := part_any h 0 (l.length : Int) hlen
  rw [e] at hp
  exact select_of hlen x k l.length h0 h1 (len_any h) hp
theorem select_nil (w : World) (x k : Int) (h0 : -9223372036854775808 ≤ k) (h1 : k ≤ 9223372036854775807) :
    Calls Try.prog 42 #[.pointer none, .int .i64 x, .int .i64 k] w fun e w' => e = .returned (.int .i64 (-1)) ∧ w = w' :=
  select_of (xs := []) (by simp) x k 0 h0 h1 (len_nil w) (part_nil' 0 0 w)
/-- slices.Clone of a row that came in. -/
theorem clone_any {n : Nat} {l : List Int} (hn : l.length = n) (A : Option Addr) (c : Nat) (w : World) (hr : Kd.C (Kd.int .i64) w A n l) (hlen : n ≤ 100000) :
    Calls Try.prog 64 #[.slice A n c] w fun e w' => ∃ v, e = .returned v ∧ Kd.R (Kd.int .i64) 3 w' w.heap.size (fun _ => True) v l ∧ Below w.heap.size w w' := by
  subst hn
  rcases A with _ | ad
  · have h0 : l = [] := by
      rcases Nat.eq_zero_or_pos l.length with h | h
      · exact List.eq_nil_of_length_eq_zero h
      · obtain ⟨ad, e, _⟩ := at_arg hr 0 h
        cases e
    subst h0
    refine (Try.slices_Clone_int_nil 0 c w).mono ?_
    rintro e w' ⟨rfl, rfl⟩
    exact ⟨_, rfl, Kd.R_nil _ _ _ _ _, Below.refl _ _⟩
  · rcases Nat.eq_zero_or_pos l.length with h | h
    · have h0 : l = [] := List.eq_nil_of_length_eq_zero h
      subst h0
      refine (Try.slices_Clone_int_zero ad c w).mono ?_
      rintro e w' ⟨v, rfl, ho, _, hb⟩
      exact ⟨v, rfl, Kd.R_of_own ho (fun _ _ => trivial), hb⟩
    · have hcells : ∀ i, i < l.length → w.cell? (ad.add i) = some (.int .i64 (l.getD i 0)) := fun i hi => by
        obtain ⟨ad', e, hx⟩ := at_arg hr i hi
        cases e
        rw [hx, rd_nat]
      obtain ⟨b, off, rfl, hc⟩ := ints_at hcells h
      refine (Try.slices_Clone_int b off l.length c l w (Nat.le_refl _) (by omega) hc).mono ?_
      rintro e w' ⟨v, rfl, ho, _, hb⟩
      rw [List.take_length] at ho
      exact ⟨v, rfl, Kd.R_of_own ho (fun _ _ => trivial), hb⟩
/-- New: a Wave, if the numbers may be packed so; else none, and the error. -/
theorem new_ok (A : Option Addr) (c : Nat) (l : List Int) (wd : Int) (w : World) (hr : Kd.C (Kd.int .i64) w A l.length l) (hc : l.length ≤ c) (hlen : l.length ≤ 9223372036854775807) (hwf : ∀ i : Nat, -9223372036854775808 ≤ rd l i ∧ rd l i ≤ 9223372036854775807) (hm : May l wd) :
    Calls Try.prog 35 #[.slice A l.length c, .int .i64 wd] w fun e w' => ∃ v, e = .returned (.tuple #[v, .int .i64 0]) ∧ IsWave w' v l ∧ Below w.heap.size w w' := by
  have hl := hm.2.2.1
  have C1 := pack_any A c l wd w hr hc hlen hwf
  rw [show packR l wd = (packed l wd.toNat, 0) by unfold packR; rw [if_pos hm]] at C1
  have C1 := Aside0.mk C1
  have C2 := Aside0.mk (fun w1 hb => clone_any (n := l.length) (l := l) rfl A c w1 (Kd.C_below (w1 := w1) hr hb) (by omega))
  clear hr hwf hm
  go_enter Try.func35, Try.ntmps35
  go_wp2_with (first
    | (go_at_call 26; (with_reducible refine C1.out.mono ?_); rintro e w3 ⟨v, rfl, hv, hb⟩; have HB := Aside0.mk hb; clear hv hb)
    | (go_at_call 64; (with_reducible refine (C2.out _ HB.out).mono ?_); rintro e w4 ⟨v, rfl, hv, hb⟩; obtain ⟨A2, c2, e2⟩ := Kd.R_slice hv; subst e2; have HB2 := Aside0.mk (below_step HB.out hb); have HV := Aside0.mk hv; clear hv hb))
  go_ret2
  refine ⟨_, rfl, ⟨w4.heap.size, A2, c2, rfl, cell_new1 _ _ _, (reads_n HV.out).2.1, Kd.C_below (reads_n HV.out).2.2 (below_alloc (Below.refl _ _) _)⟩, below_alloc HB2.out _⟩
theorem new_bad (A : Option Addr) (c : Nat) (l : List Int) (wd : Int) (w : World) (hr : Kd.C (Kd.int .i64) w A l.length l) (hc : l.length ≤ c) (hlen : l.length ≤ 9223372036854775807) (hwf : ∀ i : Nat, -9223372036854775808 ≤ rd l i ∧ rd l i ≤ 9223372036854775807) (hm : ¬ May l wd) :
    Calls Try.prog 35 #[.slice A l.length c, .int .i64 wd] w fun e w' => e = .returned (.tuple #[.pointer none, .int .i64 1]) ∧ Below w.heap.size w w' := by
  have C1 := pack_any A c l wd w hr hc hlen hwf
  rw [show packR l wd = ([], 1) by unfold packR; rw [if_neg hm]] at C1
  have C1 := Aside0.mk C1
  clear hr hwf hm
  go_enter Try.func35, Try.ntmps35
  go_wp2_with (first
    | (go_at_call 26; (with_reducible refine C1.out.mono ?_); rintro e w3 ⟨v, rfl, hv, hb⟩; have HB := Aside0.mk hb; clear hv hb))
  go_ret2
  exact ⟨rfl, HB.out⟩
end Go.Proofs.Ytdijaobhijmknaa.Wv
