/- The walks of the laws DoubleTells, DoubleOps and DoubleOrders. -/
import Derived.Test.YtmenjcjpihpjjaaKnown
set_option linter.unusedSimpArgs false
set_option linter.unusedVariables false
namespace Go.Proofs.Ytmenjcjpihpjjaa.Fb
open Go Go.RowKit Go.Proofs.YtmenjcjpihpjjaaW.PrintWords Go.Proofs.YtmenjcjpihpjjaaW.PrintLast Go.Proofs.YtmenjcjpihpjjaaW.PrintMore
attribute [local go_sem] max2_int min2_int max_two min_two
attribute [local go_sem] run_from run_bits run_neg

theorem u64_nat {a : Int} (h : (Lit.int .u64 a).wf = true) : ∃ n : Nat, a = n ∧ n < 18446744073709551616 := by
  have h1 : 0 ≤ a ∧ a ≤ 18446744073709551615 := by simpa [Lit.wf, IntKind.min, IntKind.max, IntKind.signed, IntKind.bits] using h
  obtain ⟨n, rfl⟩ := Int.eq_ofNat_of_zero_le h1.1
  exact ⟨n, rfl, by omega⟩
theorem order_K (a b : Nat) (ha : a < 18446744073709551616) (hb : b < 18446744073709551616) (w : World) :
    Calls Try.prog 22 #[.float .f64 a, .float .f64 b] w fun e w' => e = .returned (.int .i64 (ordK a b)) ∧ w = w' := by
  have := order_any a b ha hb w
  rw [ordF_key] at this
  exact this
theorem refOrder_K (a b : Nat) (ha : a < 18446744073709551616) (hb : b < 18446744073709551616) (w : World) :
    Calls Try.prog 23 #[.float .f64 a, .float .f64 b] w fun e w' => e = .returned (.int .i64 (ordK a b)) ∧ w = w' := by
  have := refOrder_any a b ha hb w
  rw [ordR_key a b ha hb] at this
  exact this
set_option maxHeartbeats 400000 in
theorem tells_law (a b : Int) (s : ByteArray) (w : World) (ha : (Lit.int .u64 a).wf = true) (hb : (Lit.int .u64 b).wf = true) (hs1 : s.size ≤ maxLen) (hs : s.size ≤ 140737488351232) :
    Calls Try.prog 9 #[.int .u64 a, .int .u64 b, .string s] w fun e w' => e = .returned (.bool true) ∧ Below w.heap.size w w' := by
  obtain ⟨n, rfl, hn⟩ := u64_nat ha
  obtain ⟨m, rfl, hm⟩ := u64_nat hb
  have CK := Aside0.mk known_any
  have C1 := Aside0.mk (holds_any n m s)
  have C2 := Aside0.mk (refHolds_any n m s)
  have C3 := Aside0.mk (order_K n m hn hm)
  have C4 := Aside0.mk (refOrder_K n m hn hm)
  clear ha hb
  generalize holdsF (ord n m) s = H at *
  generalize ordK n m = O at *
  go_enter Try.func9, Try.ntmps9
  go_wp2_with (first
    | (go_at_call 13; (with_reducible refine (C1.out _).mono ?_); rintro e w1 ⟨rfl, rfl⟩)
    | (go_at_call 21; (with_reducible refine (C2.out _).mono ?_); rintro e w1 ⟨rfl, rfl⟩)
    | (go_at_call 22; (with_reducible refine (C3.out _).mono ?_); rintro e w1 ⟨rfl, rfl⟩)
    | (go_at_call 23; (with_reducible refine (C4.out _).mono ?_); rintro e w1 ⟨rfl, rfl⟩)
    | (go_at_call 14; (with_reducible refine (CK.out _).mono ?_); rintro e w3 ⟨rfl, hb3⟩; have HB3 := Aside0.mk hb3; clear hb3))
  go_ret
  exact ⟨rfl, HB3.out⟩
theorem ord_none {n m : Nat} (h : nan n = true ∨ nan m = true) : ord n m = none := by
  rw [nan_key, nan_key] at h
  rw [ord_key]
  cases hx : key n with
  | none => rfl
  | some x =>
    cases hy : key m with
    | none => rfl
    | some y => rw [hx, hy] at h; rcases h with h | h <;> cases h
theorem ord_some {n m : Nat} (h1 : nan n = false) (h2 : nan m = false) : ∃ x y, key n = some x ∧ key m = some y ∧ ord n m = some (compare x y) := by
  rw [nan_key] at h1 h2
  rw [ord_key]
  cases hx : key n with
  | none => rw [hx] at h1; cases h1
  | some x =>
    cases hy : key m with
    | none => rw [hy] at h2; cases h2
    | some y => exact ⟨x, y, rfl, rfl, rfl⟩
theorem eq_of_nan {n : Nat} {b : Bool} (h : nan n = b) : (FloatKind.f64.format.order n n != some Ordering.eq) = b := h
theorem eq_of_nan' {n : Nat} {b : Bool} (h : nan n = b) : (FloatKind.f64.format.order n n == some Ordering.eq) = !b := by
  rw [← h]; unfold nan ord; simp [bne]
def OpsAt (n m : Nat) (o : Option Ordering) : Prop := ord n m = o
set_option maxRecDepth 100000 in
set_option maxHeartbeats 1000000 in
theorem ops_law (a b : Int) (w : World) (ha : (Lit.int .u64 a).wf = true) (hb : (Lit.int .u64 b).wf = true) :
    Calls Try.prog 3 #[.int .u64 a, .int .u64 b] w fun e w' => e = .returned (.bool true) ∧ Below w.heap.size w w' := by
  obtain ⟨n, rfl, hn⟩ := u64_nat ha
  obtain ⟨m, rfl, hm⟩ := u64_nat hb
  have CK := Aside0.mk known_any
  have C1 := Aside0.mk (holds_any n m)
  clear ha hb
  obtain ⟨o, ho⟩ : ∃ o, o = ord n m := ⟨_, rfl⟩
  rw [← ho] at C1
  have hcase : (((FloatKind.f64.format.order n n != some Ordering.eq) = true) ∧ o = none) ∨ (((FloatKind.f64.format.order n n != some Ordering.eq) = false) ∧ ((FloatKind.f64.format.order m m != some Ordering.eq) = true) ∧ o = none) ∨
      (((FloatKind.f64.format.order n n != some Ordering.eq) = false) ∧ ((FloatKind.f64.format.order m m != some Ordering.eq) = false) ∧ (o = some .lt ∨ o = some .eq ∨ o = some .gt)) := by
    cases h1 : nan n with
    | true => exact .inl ⟨eq_of_nan h1, ho.trans (ord_none (.inl h1))⟩
    | false =>
      cases h2 : nan m with
      | true => exact .inr (.inl ⟨eq_of_nan h1, eq_of_nan h2, ho.trans (ord_none (.inr h2))⟩)
      | false =>
        obtain ⟨x, y, _, _, h3⟩ := ord_some h1 h2
        refine .inr (.inr ⟨eq_of_nan h1, eq_of_nan h2, ?_⟩)
        rw [ho, h3]
        cases compare x y
        · exact .inl rfl
        · exact .inr (.inl rfl)
        · exact .inr (.inr rfl)
  clear ho
  rcases hcase with ⟨f1, rfl⟩ | ⟨f1, f2, rfl⟩ | ⟨f1, f2, rfl | rfl | rfl⟩
  · have k1 : holdsF none ⟨#[60]⟩ = false := by decide +kernel
    have k2 : holdsF none ⟨#[60, 61]⟩ = false := by decide +kernel
    have k3 : holdsF none ⟨#[62]⟩ = false := by decide +kernel
    have k4 : holdsF none ⟨#[62, 61]⟩ = false := by decide +kernel
    have k5 : holdsF none ⟨#[61]⟩ = false := by decide +kernel
    have k6 : holdsF none ⟨#[33, 61]⟩ = true := by decide +kernel
    go_enter Try.func3, Try.ntmps3
    go_wp2_with (first
      | (go_at_call 13; (with_reducible refine (C1.out _ _).mono ?_); rintro e w1 ⟨rfl, rfl⟩)
      | (go_at_call 14; (with_reducible refine (CK.out _).mono ?_); rintro e w3 ⟨rfl, hb3⟩; have HB3 := Aside0.mk hb3; clear hb3))
    go_ret
    exact ⟨rfl, HB3.out⟩
  · have k1 : holdsF none ⟨#[60]⟩ = false := by decide +kernel
    have k2 : holdsF none ⟨#[60, 61]⟩ = false := by decide +kernel
    have k3 : holdsF none ⟨#[62]⟩ = false := by decide +kernel
    have k4 : holdsF none ⟨#[62, 61]⟩ = false := by decide +kernel
    have k5 : holdsF none ⟨#[61]⟩ = false := by decide +kernel
    have k6 : holdsF none ⟨#[33, 61]⟩ = true := by decide +kernel
    go_enter Try.func3, Try.ntmps3
    go_wp2_with (first
      | (go_at_call 13; (with_reducible refine (C1.out _ _).mono ?_); rintro e w1 ⟨rfl, rfl⟩)
      | (go_at_call 14; (with_reducible refine (CK.out _).mono ?_); rintro e w3 ⟨rfl, hb3⟩; have HB3 := Aside0.mk hb3; clear hb3))
    go_ret
    exact ⟨rfl, HB3.out⟩
  · have k1 : holdsF (some .lt) ⟨#[60]⟩ = true := by decide +kernel
    have k2 : holdsF (some .lt) ⟨#[60, 61]⟩ = true := by decide +kernel
    have k3 : holdsF (some .lt) ⟨#[62]⟩ = false := by decide +kernel
    have k4 : holdsF (some .lt) ⟨#[62, 61]⟩ = false := by decide +kernel
    have k5 : holdsF (some .lt) ⟨#[61]⟩ = false := by decide +kernel
    have k6 : holdsF (some .lt) ⟨#[33, 61]⟩ = true := by decide +kernel
    have k7 : holdsF (some .lt) ⟨#[61, 61]⟩ = false := by decide +kernel
    go_enter Try.func3, Try.ntmps3
    go_wp2_with (first
      | (go_at_call 13; (with_reducible refine (C1.out _ _).mono ?_); rintro e w1 ⟨rfl, rfl⟩)
      | (go_at_call 14; (with_reducible refine (CK.out _).mono ?_); rintro e w3 ⟨rfl, hb3⟩; have HB3 := Aside0.mk hb3; clear hb3))
    go_ret
    exact ⟨rfl, HB3.out⟩
  · have k1 : holdsF (some .eq) ⟨#[60]⟩ = false := by decide +kernel
    have k2 : holdsF (some .eq) ⟨#[60, 61]⟩ = true := by decide +kernel
    have k3 : holdsF (some .eq) ⟨#[62]⟩ = false := by decide +kernel
    have k4 : holdsF (some .eq) ⟨#[62, 61]⟩ = true := by decide +kernel
    have k5 : holdsF (some .eq) ⟨#[61]⟩ = true := by decide +kernel
    have k6 : holdsF (some .eq) ⟨#[33, 61]⟩ = false := by decide +kernel
    have k7 : holdsF (some .eq) ⟨#[61, 61]⟩ = false := by decide +kernel
    go_enter Try.func3, Try.ntmps3
    go_wp2_with (first
      | (go_at_call 13; (with_reducible refine (C1.out _ _).mono ?_); rintro e w1 ⟨rfl, rfl⟩)
      | (go_at_call 14; (with_reducible refine (CK.out _).mono ?_); rintro e w3 ⟨rfl, hb3⟩; have HB3 := Aside0.mk hb3; clear hb3))
    go_ret
    exact ⟨rfl, HB3.out⟩
  · have k1 : holdsF (some .gt) ⟨#[60]⟩ = false := by decide +kernel
    have k2 : holdsF (some .gt) ⟨#[60, 61]⟩ = false := by decide +kernel
    have k3 : holdsF (some .gt) ⟨#[62]⟩ = true := by decide +kernel
    have k4 : holdsF (some .gt) ⟨#[62, 61]⟩ = true := by decide +kernel
    have k5 : holdsF (some .gt) ⟨#[61]⟩ = false := by decide +kernel
    have k6 : holdsF (some .gt) ⟨#[33, 61]⟩ = true := by decide +kernel
    have k7 : holdsF (some .gt) ⟨#[61, 61]⟩ = false := by decide +kernel
    go_enter Try.func3, Try.ntmps3
    go_wp2_with (first
      | (go_at_call 13; (with_reducible refine (C1.out _ _).mono ?_); rintro e w1 ⟨rfl, rfl⟩)
      | (go_at_call 14; (with_reducible refine (CK.out _).mono ?_); rintro e w3 ⟨rfl, hb3⟩; have HB3 := Aside0.mk hb3; clear hb3))
    go_ret
    exact ⟨rfl, HB3.out⟩
theorem ordK_swap (a b : Nat) : ordK b a = -ordK a b := by
  unfold ordK
  cases key a with
  | none => cases key b <;> rfl
  | some x =>
    cases key b with
    | none => rfl
    | some y =>
      simp only
      split <;> split <;> (try split) <;> (try split) <;> (try split) <;> (try split) <;> omega
theorem ordK_trans {a b c : Nat} (h1 : ordK a b ≤ 0) (h2 : ordK b c ≤ 0) : ordK a c ≤ 0 := by
  unfold ordK at *
  cases ha : key a with
  | none => cases key c <;> simp
  | some x =>
    rw [ha] at h1
    cases hb : key b with
    | none => rw [hb] at h1; simp at h1
    | some y =>
      rw [hb] at h1 h2
      cases hc : key c with
      | none => rw [hc] at h2; simp at h2
      | some z =>
        rw [hc] at h2
        simp only at h1 h2 ⊢
        generalize sgn a = p at *
        generalize sgn b = q at *
        generalize sgn c = r at *
        split at h1 <;> split at h2 <;> (try split at h1) <;> (try split at h2) <;> (try split at h1) <;> (try split at h2) <;> (try split at h1) <;> (try split at h2) <;> (try omega) <;>
          (split <;> (try split) <;> (try split) <;> (try split) <;> omega)
theorem ordK_range (a b : Nat) : -1 ≤ ordK a b ∧ ordK a b ≤ 1 := by
  unfold ordK
  cases key a <;> cases key b <;> simp only <;> (try omega)
theorem ordK_less {a b : Nat} {x y : Int} (ha : a < 18446744073709551616) (hb : b < 18446744073709551616) (hx : key a = some x) (hy : key b = some y) (h : x ≠ 0 ∨ y ≠ 0) :
    ordK a b < 0 ↔ x < y := by
  have k1 := key_sign ha hx
  have k2 := key_sign hb hy
  unfold ordK sgn
  rw [hx, hy]
  simp only
  cases hn : neg a <;> cases hm : neg b <;> simp only [hn, hm, Bool.false_eq_true, if_false, if_true] at k1 k2 ⊢
  all_goals (split <;> (try split) <;> (try split) <;> (try split) <;> omega)
theorem key_zero : key 0 = some 0 := by decide +kernel
theorem ne_zero {a : Nat} {x : Int} (hx : key a = some x) : (FloatKind.f64.format.order a 0 != some Ordering.eq) = decide (x ≠ 0) := by
  have h : ord a 0 = some (compare x 0) := by rw [ord_key, hx, key_zero]
  show (ord a 0 != some .eq) = _
  rw [h]
  rcases Int.lt_trichotomy x 0 with c | c | c
  · rw [Int.compare_eq_lt.2 c, decide_eq_true (by omega)]; rfl
  · subst c; rfl
  · rw [Int.compare_eq_gt.2 c, decide_eq_true (by omega)]; rfl
theorem lt_key {a b : Nat} {x y : Int} (hx : key a = some x) (hy : key b = some y) : (FloatKind.f64.format.order a b == some Ordering.lt) = decide (x < y) := by
  have h : ord a b = some (compare x y) := by rw [ord_key, hx, hy]
  show (ord a b == some .lt) = _
  rw [h]
  rcases Int.lt_trichotomy x y with c | c | c
  · rw [Int.compare_eq_lt.2 c]; simp [c]
  · subst c; rw [Int.compare_eq_eq.2 rfl]; simp
  · rw [Int.compare_eq_gt.2 c]; simp; omega
set_option maxRecDepth 100000 in
set_option maxHeartbeats 2000000 in
theorem orders_law (a b c : Int) (w : World) (ha : (Lit.int .u64 a).wf = true) (hb : (Lit.int .u64 b).wf = true) (hc : (Lit.int .u64 c).wf = true) :
    Calls Try.prog 10 #[.int .u64 a, .int .u64 b, .int .u64 c] w fun e w' => e = .returned (.bool true) ∧ Below w.heap.size w w' := by
  obtain ⟨x, rfl, hx⟩ := u64_nat ha
  obtain ⟨y, rfl, hy⟩ := u64_nat hb
  obtain ⟨z, rfl, hz⟩ := u64_nat hc
  have CK := Aside0.mk known_any
  have Cxy := Aside0.mk (order_K x y hx hy)
  have Cyz := Aside0.mk (order_K y z hy hz)
  have Cxz := Aside0.mk (order_K x z hx hz)
  have Cyx := Aside0.mk (order_K y x hy hx)
  have Cxx := Aside0.mk (order_K x x hx hx)
  rw [ordK_swap x y] at Cyx
  rw [ordK_self] at Cxx
  obtain ⟨P, hP⟩ : ∃ P, P = ordK x y := ⟨_, rfl⟩
  obtain ⟨Q, hQ⟩ : ∃ Q, Q = ordK y z := ⟨_, rfl⟩
  obtain ⟨R, hR⟩ : ∃ R, R = ordK x z := ⟨_, rfl⟩
  obtain ⟨p1, p2⟩ := ordK_range x y
  obtain ⟨q1, q2⟩ := ordK_range y z
  obtain ⟨r1, r2⟩ := ordK_range x z
  have ht : P ≤ 0 → Q ≤ 0 → R ≤ 0 := by rw [hP, hQ, hR]; exact ordK_trans
  have h3 : 0 < P ∨ (P ≤ 0 ∧ 0 < Q) ∨ (P ≤ 0 ∧ Q ≤ 0 ∧ R ≤ 0) := by
    by_cases c1 : P ≤ 0
    · by_cases c2 : Q ≤ 0
      · exact .inr (.inr ⟨c1, c2, ht c1 c2⟩)
      · exact .inr (.inl ⟨c1, by omega⟩)
    · exact .inl (by omega)
  clear ht
  have HPe := Aside0.mk hP
  rw [← hP] at Cxy Cyx p1 p2
  rw [← hQ] at Cyz q1 q2
  rw [← hR] at Cxz r1 r2
  clear ha hb hc hP hQ hR
  go_enter Try.func10, Try.ntmps10
  go_wp2_with fail
  refine (Cxy.out _).mono ?_
  rintro e w1 ⟨rfl, rfl⟩
  go_wp2_with fail
  refine (Cyz.out _).mono ?_
  rintro e w1 ⟨rfl, rfl⟩
  go_wp2_with fail
  refine (Cxz.out _).mono ?_
  rintro e w1 ⟨rfl, rfl⟩
  go_upto_region 3 with (fail)
  go_cut [51] (fun s51 wx => s51 = .bool false ∧ w = wx)
  case first =>
    rcases h3 with h | ⟨h, h2⟩ | ⟨h, h2, h3⟩
    all_goals
      go_wp2_with fail
      refine (Cyx.out _).mono ?_
      rintro e w1 ⟨rfl, rfl⟩
      go_wp2_with fail
      refine (Cxx.out _).mono ?_
      rintro e w1 ⟨rfl, rfl⟩
      go_wp2_with fail
      go_meet
      first
        | exact ⟨rfl, rfl⟩
        | exact ⟨congrArg Value.bool (decide_eq_false (by omega)), rfl⟩
  case rest =>
    obtain ⟨rfl, rfl⟩ := hcut
    cases n1 : nan x with
    | true =>
      have f1 := eq_of_nan' n1
      have k1 : key x = none := by rw [nan_key] at n1; exact Option.isNone_iff_eq_none.1 n1
      cases n2 : nan y with
      | true =>
        have f2 := eq_of_nan n2
        have k2 : key y = none := by rw [nan_key] at n2; exact Option.isNone_iff_eq_none.1 n2
        have hp : (P == -1) = false := by rw [HPe.out]; unfold ordK; rw [k1, k2]; rfl
        clear n1 n2 k1 k2
        go_wp2_with fail
        refine (CK.out _).mono ?_
        rintro e w3 ⟨rfl, hb3⟩
        have HB3 := Aside0.mk hb3
        clear hb3
        go_wp2_with fail
        go_ret
        exact ⟨rfl, HB3.out⟩
      | false =>
        obtain ⟨ky, k2⟩ : ∃ v, key y = some v := by rw [nan_key] at n2; exact Option.isSome_iff_exists.1 (by cases h : key y <;> simp_all)
        have hp : (P == -1) = true := by rw [HPe.out]; unfold ordK; rw [k1, k2]; rfl
        clear n1 n2 k1 k2
        go_wp2_with fail
        refine (CK.out _).mono ?_
        rintro e w3 ⟨rfl, hb3⟩
        have HB3 := Aside0.mk hb3
        clear hb3
        go_wp2_with fail
        go_ret
        exact ⟨rfl, HB3.out⟩
    | false =>
      have f1 := eq_of_nan' n1
      obtain ⟨kx, k1⟩ : ∃ v, key x = some v := by rw [nan_key] at n1; exact Option.isSome_iff_exists.1 (by cases h : key x <;> simp_all)
      cases n2 : nan y with
      | true =>
        have f2 := eq_of_nan' n2
        clear n1 n2 k1
        go_wp2_with fail
        refine (CK.out _).mono ?_
        rintro e w3 ⟨rfl, hb3⟩
        have HB3 := Aside0.mk hb3
        clear hb3
        go_wp2_with fail
        go_ret
        exact ⟨rfl, HB3.out⟩
      | false =>
        have f2 := eq_of_nan' n2
        obtain ⟨ky, k2⟩ : ∃ v, key y = some v := by rw [nan_key] at n2; exact Option.isSome_iff_exists.1 (by cases h : key y <;> simp_all)
        have z1 := ne_zero k1
        have z2 := ne_zero k2
        have hl := lt_key k1 k2
        have hle := fun h => ordK_less hx hy k1 k2 h
        rw [← HPe.out] at hle
        clear n1 n2 k1 k2
        have hcase : (decide (kx ≠ 0) = true ∧ (P < 0 ↔ kx < ky)) ∨ (decide (kx ≠ 0) = false ∧ decide (ky ≠ 0) = true ∧ (P < 0 ↔ kx < ky)) ∨ (decide (kx ≠ 0) = false ∧ decide (ky ≠ 0) = false) := by
          by_cases c1 : kx = 0
          · by_cases c2 : ky = 0
            · exact .inr (.inr ⟨by simp [c1], by simp [c2]⟩)
            · exact .inr (.inl ⟨by simp [c1], by simp [c2], hle (.inr c2)⟩)
          · exact .inl ⟨by simp [c1], hle (.inl c1)⟩
        clear hle
        rcases hcase with ⟨c1, c2⟩ | ⟨c1, c3, c2⟩ | ⟨c1, c3⟩
        · rw [c1] at z1
          have hd : decide (kx < ky) = decide (P < 0) := by rw [decide_eq_decide]; exact c2.symm
          rw [hd] at hl
          clear c1 c2 hd z2
          by_cases hpn : P < 0
          all_goals
            go_wp2_with fail
            refine (CK.out _).mono ?_
            rintro e w3 ⟨rfl, hb3⟩
            have HB3 := Aside0.mk hb3
            clear hb3
            go_wp2_with fail
            go_ret
            exact ⟨rfl, HB3.out⟩
        · rw [c1] at z1
          rw [c3] at z2
          have hd : decide (kx < ky) = decide (P < 0) := by rw [decide_eq_decide]; exact c2.symm
          rw [hd] at hl
          clear c1 c2 c3 hd
          by_cases hpn : P < 0
          all_goals
            go_wp2_with fail
            refine (CK.out _).mono ?_
            rintro e w3 ⟨rfl, hb3⟩
            have HB3 := Aside0.mk hb3
            clear hb3
            go_wp2_with fail
            go_ret
            exact ⟨rfl, HB3.out⟩
        · rw [c1] at z1
          rw [c3] at z2
          clear c1 c3 hl
          go_wp2_with fail
          refine (CK.out _).mono ?_
          rintro e w3 ⟨rfl, hb3⟩
          have HB3 := Aside0.mk hb3
          clear hb3
          go_wp2_with fail
          go_ret
          exact ⟨rfl, HB3.out⟩
end Go.Proofs.Ytmenjcjpihpjjaa.Fb
