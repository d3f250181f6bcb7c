/- The walk of the law DoubleBounds. -/
import Derived.Test.YtmenjcjpihpjjaaLawTens
set_option linter.unusedSimpArgs false
set_option linter.unusedVariables false
namespace Go.Proofs.Ytmenjcjpihpjjaa.Fb
open Go Go.RowKit Go.Proofs.YtmenjcjpihpjjaaW.PrintWords Go.Proofs.YtmenjcjpihpjjaaW.PrintLast Go.Proofs.YtmenjcjpihpjjaaW.PrintMore
attribute [local go_sem] max2_int min2_int max_two min_two
attribute [local go_sem] run_from run_bits run_neg

/-- Ones with a point behind the p-th, as far as the i-th. -/
def onesT (p i : Nat) : List UInt8 := if i ≤ p then List.replicate i 49 else List.replicate p 49 ++ 46 :: List.replicate (i - p) 49
theorem onesT_at (p : Nat) : onesT p (p + 1) = (onesT p p ++ [46]) ++ [49] := by
  unfold onesT
  rw [if_neg (by omega), if_pos (Nat.le_refl _), show p + 1 - p = 1 by omega]
  simp
theorem onesT_step {p i : Nat} (h : i ≠ p) : onesT p (i + 1) = onesT p i ++ [49] := by
  unfold onesT
  by_cases c : i ≤ p
  · rw [if_pos (by omega), if_pos c, List.replicate_succ']
  · rw [if_neg (by omega), if_neg c, show i + 1 - p = (i - p) + 1 by omega, List.replicate_succ']
    simp
theorem onesT_len (p i : Nat) : (onesT p i).length ≤ i + 1 := by
  unfold onesT
  split <;> simp
  omega
theorem ones_dig (n : Nat) : AllDig (List.replicate n 49) := by
  intro c hc
  rw [List.mem_replicate] at hc
  rw [hc.2]; decide
def posF (v : Option Nat) : Bool := match v with
  | some r => FloatKind.f64.format.order r 0 == some .gt
  | none => false
theorem ones_pos : ∀ n, n < 16 → ∀ k, k < 45 → (n = 0 ∨ posF (scaleF (wholeI (List.replicate n 49)) ((k : Nat) - 22)) = true) := by decide +kernel
theorem bounds_form (n b : Nat) (e : Int) (sg : List UInt8) (hn : 1 ≤ n) (hb : b ≤ n) (he : -30 ≤ e) (he2 : e ≤ 30) (hsg : (0 ≤ e ∧ sg = []) ∨ (e < 0 ∧ sg = [45])) :
    parseL (onesT (n - b) n ++ 69 :: (sg ++ decL e.natAbs)) = formF (List.replicate n 49) b (e, true) := by
  obtain ⟨h1, h2, h3⟩ := decL_dig e.natAbs
  have hl := decL_len 1 e.natAbs (by omega)
  have hx : expL (69 :: (sg ++ decL e.natAbs)) = (e, true) := by
    rcases hsg with ⟨c, rfl⟩ | ⟨c, rfl⟩
    · rw [List.nil_append, expL_of (.inr rfl) (signR_dig h1) h3 h1 (by omega), h2]
      simp; omega
    · rw [expL_of (.inr rfl) (show signR ([45] ++ decL e.natAbs) = (true, decL e.natAbs) by simp [signR]) h3 h1 (by omega), h2]
      simp; omega
  have hnd : NoDig (69 :: (sg ++ decL e.natAbs)) := .inr ⟨_, _, rfl, by decide⟩
  have hp : parseL (onesT (n - b) n ++ 69 :: (sg ++ decL e.natAbs)) = plainL (onesT (n - b) n ++ 69 :: (sg ++ decL e.natAbs)) := by
    have hf : ∃ c t, onesT (n - b) n ++ 69 :: (sg ++ decL e.natAbs) = c :: t ∧ (c = 49 ∨ c = 46) := by
      unfold onesT
      split
      · obtain ⟨m, rfl⟩ : ∃ m, n = m + 1 := ⟨n - 1, by omega⟩
        exact ⟨49, _, by rw [List.replicate_succ, List.cons_append], .inl rfl⟩
      · cases hq : n - b with
        | zero => exact ⟨46, _, by rw [List.replicate_zero, List.nil_append, List.cons_append], .inr rfl⟩
        | succ q => exact ⟨49, _, by rw [List.replicate_succ, List.cons_append, List.cons_append], .inl rfl⟩
    obtain ⟨c, t, hc, hcc⟩ := hf
    rw [hc]
    refine parse_plain ?_ ?_
    · rw [signR, if_neg, if_neg] <;> rcases hcc with rfl | rfl <;> decide
    · intro d u h
      injection h with h _
      subst h
      rcases hcc with rfl | rfl <;> exact ⟨by decide, by decide⟩
  rw [hp]
  unfold onesT
  by_cases c : n ≤ n - b
  · have hb0 : b = 0 := by omega
    subst hb0
    rw [if_pos c, plain_bare (ones_dig n) (.inr ⟨_, _, rfl, by decide, by decide⟩), hx]
  · rw [if_neg c, List.append_assoc, List.cons_append, plain_dot (ones_dig _) (ones_dig _) hnd, hx, List.replicate_append_replicate, List.length_replicate]
    rw [show n - b + (n - (n - b)) = n by omega, show n - (n - b) = b by omega]
theorem bounds_yes (n b : Nat) (e : Int) (hn : 1 ≤ n) (hn2 : n ≤ 15) (h1 : -22 ≤ e - b) (h2 : e - b ≤ 22) : ∃ r, formF (List.replicate n 49) b (e, true) = some r ∧ (FloatKind.f64.format.order r 0 == some Ordering.gt) = true := by
  have h3 := ones_pos n (by omega) (e - b + 22).toNat (by omega)
  rw [show (((e - b + 22).toNat : Nat) : Int) - 22 = e - b by omega] at h3
  have h4 := h3.resolve_left (by omega)
  have h5 : formF (List.replicate n 49) b (e, true) = scaleF (wholeI (List.replicate n 49)) (e - b) :=
    form_some rfl (by intro h; have := congrArg List.length h; simp at this; omega) (by simp; omega) rfl h1 h2 rfl
  rw [h5]
  cases hs : scaleF (wholeI (List.replicate n 49)) (e - b) with
  | none => rw [hs] at h4; cases h4
  | some r => rw [hs] at h4; exact ⟨r, rfl, h4⟩
theorem bounds_no (n b : Nat) (e : Int) (h : ¬ (n ≤ 15 ∧ -22 ≤ e - b ∧ e - b ≤ 22)) : formF (List.replicate n 49) b (e, true) = none := by
  unfold formF
  rw [if_neg]
  rintro ⟨_, _, h1, h2, h3⟩
  apply h
  refine ⟨by simpa using h1, h2, h3⟩
set_option maxRecDepth 100000 in
set_option maxHeartbeats 2000000 in
theorem bounds_pos (n b : Nat) (e : Int) (hn : 1 ≤ n) (hn2 : n ≤ 20) (hb : b ≤ n) (he1 : -30 ≤ e) (he2 : e ≤ 30) (hc : 0 ≤ e) (w : World) :
    Calls Try.prog 5 #[.int .i64 n, .int .i64 e, .int .i64 b] w fun e w' => e = .returned (.bool true) ∧ Below w.heap.size w w' := by
  have CK := Aside0.mk known_any
  obtain ⟨xb, x1, x2, hcx⟩ := digs_bytes e.natAbs (by omega)
  have CX := Aside0.mk hcx
  have HX := Aside0.mk x1
  have hm2 : Builtin.max2 (.int .i64 e) (.int .i64 (-e)) = pure (.int .i64 (e.natAbs : Int)) := by
    rw [max2_int]
    have : (if e < -e then -e else e) = (e.natAbs : Int) := by split <;> omega
    rw [this]
  have hna : (e.natAbs : Int) ≤ 30 := by omega
  clear hcx x1
  go_enter Try.func5, Try.ntmps5
  go_wp2_with fail
  go_loop [7, 8] (fun x y => ∃ (sb : ByteArray) (i : Nat), x = .string sb ∧ y = .int .i64 i ∧ i ≤ n ∧ sb.size ≤ i + 1 ∧ Aside0 (sb.data.toList = onesT (n - b) i)) (fun _ y => n - (intOf y).toNat)
  case atStart => exact ⟨⟨#[]⟩, 0, rfl, rfl, by omega, by simp [lit_size], ⟨by simp [onesT]⟩⟩
  case round =>
    obtain ⟨sb, i, rfl, rfl, hi, hsb, HS⟩ := hrel
    by_cases hlt : i < n
    · by_cases hp : i = n - b
      · have f1 : ((i : Int) == (n : Int) - (b : Int)) = true := by rw [beq_iff_eq]; omega
        have HL : Aside0 ((sb ++ (⟨#[46]⟩ : ByteArray) ++ (⟨#[49]⟩ : ByteArray)).data.toList = onesT (n - b) (i + 1)) := ⟨by simp only [app_list, HS.out]; rw [hp, onesT_at]⟩
        have hsz2 : (sb ++ (⟨#[46]⟩ : ByteArray) ++ (⟨#[49]⟩ : ByteArray)).size ≤ i + 1 + 1 := by
          rw [← toList_size, HL.out]; exact onesT_len _ _
        clear hp
        go_wp2_with fail
        go_round
        case rel => exact ⟨_, i + 1, rfl, by go_num, by omega, hsz2, HL⟩
        case measure => simp [intOf]; omega
      · have f1 : ((i : Int) == (n : Int) - (b : Int)) = false := by rw [beq_eq_false_iff_ne]; omega
        have HL : Aside0 ((sb ++ (⟨#[49]⟩ : ByteArray)).data.toList = onesT (n - b) (i + 1)) := ⟨by simp only [app_list, HS.out]; rw [onesT_step hp]⟩
        have hsz2 : (sb ++ (⟨#[49]⟩ : ByteArray)).size ≤ i + 1 + 1 := by
          rw [← toList_size, HL.out]; exact onesT_len _ _
        clear hp
        go_wp2_with fail
        go_round
        case rel => exact ⟨_, i + 1, rfl, by go_num, by omega, hsz2, HL⟩
        case measure => simp [intOf]; omega
    · have hin : i = n := by omega
      subst hin
      have hsz : (sb ++ (⟨#[69]⟩ : ByteArray) ++ xb).size ≤ 200 := by simp [lit_size]; omega
      have hlist : (sb ++ (⟨#[69]⟩ : ByteArray) ++ xb).data.toList = onesT (i - b) i ++ 69 :: ([] ++ decL e.natAbs) := by simp only [app_list, HS.out, HX.out]; simp
      obtain ⟨v, hv⟩ : ∃ v, formF (List.replicate i 49) b (e, true) = v := ⟨_, rfl⟩
      have P1 := Aside0.mk (parse_bytes (sb ++ (⟨#[69]⟩ : ByteArray) ++ xb) _ v hsz hlist ((bounds_form i b e [] hn hb he1 he2 (.inl ⟨hc, rfl⟩)).trans hv))
      by_cases hw : i ≤ 15 ∧ -22 ≤ e - b ∧ e - b ≤ 22
      · obtain ⟨r, hr, hg⟩ := bounds_yes i b e hn hw.1 hw.2.1 hw.2.2
        have hvr : v = some r := hv.symm.trans hr
        subst hvr
        obtain ⟨w1, w2, w3⟩ := hw
        clear hr hv hsz hlist
        go_wp2_with fail
        refine (CX.out _).mono ?_
        rintro e' w1 ⟨rfl, hb1⟩
        have HB1 := Aside0.mk hb1
        clear hb1
        go_wp2_with fail
        refine (P1.out _).mono ?_
        rintro e' w2 ⟨rfl, hb2⟩
        have HB2 := Aside0.mk (below_two HB1.out hb2)
        clear hb2
        go_wp2_with fail
        refine (CK.out _).mono ?_
        rintro e' w3 ⟨rfl, hb3⟩
        have HB3 := Aside0.mk (below_two HB2.out hb3)
        clear hb3
        go_wp2_with fail
        go_ret
        exact ⟨rfl, HB3.out⟩
      · have hvr : v = none := hv.symm.trans (bounds_no i b e hw)
        subst hvr
        have hg : (FloatKind.f64.format.order 0 0 == some Ordering.gt) = false := by decide +kernel
        have hw2 : 15 < i ∨ (i ≤ 15 ∧ e - b < -22) ∨ (i ≤ 15 ∧ -22 ≤ e - b ∧ 22 < e - b) := by omega
        have hf3 : 22 < e - b → decide (e - (b : Int) ≤ 22) = false := fun h => decide_eq_false (by omega)
        clear hv hsz hlist hw
        rcases hw2 with a1 | ⟨a1, a2⟩ | ⟨a1, a2, a3⟩
        all_goals try (exfalso; omega)
        all_goals
          first | (have f3 := hf3 (by assumption)) | skip
          clear hf3
          go_wp2_with fail
          refine (CX.out _).mono ?_
          rintro e' w1 ⟨rfl, hb1⟩
          have HB1 := Aside0.mk hb1
          clear hb1
          go_wp2_with fail
          refine (P1.out _).mono ?_
          rintro e' w2 ⟨rfl, hb2⟩
          have HB2 := Aside0.mk (below_two HB1.out hb2)
          clear hb2
          go_wp2_with fail
          refine (CK.out _).mono ?_
          rintro e' w3 ⟨rfl, hb3⟩
          have HB3 := Aside0.mk (below_two HB2.out hb3)
          clear hb3
          go_wp2_with fail
          go_ret
          exact ⟨rfl, HB3.out⟩
set_option maxRecDepth 100000 in
set_option maxHeartbeats 2000000 in
theorem bounds_neg (n b : Nat) (e : Int) (hn : 1 ≤ n) (hn2 : n ≤ 20) (hb : b ≤ n) (he1 : -30 ≤ e) (he2 : e ≤ 30) (hc : e < 0) (w : World) :
    Calls Try.prog 5 #[.int .i64 n, .int .i64 e, .int .i64 b] w fun e w' => e = .returned (.bool true) ∧ Below w.heap.size w w' := by
  have CK := Aside0.mk known_any
  obtain ⟨xb, x1, x2, hcx⟩ := digs_bytes e.natAbs (by omega)
  have CX := Aside0.mk hcx
  have HX := Aside0.mk x1
  have hm2 : Builtin.max2 (.int .i64 e) (.int .i64 (-e)) = pure (.int .i64 (e.natAbs : Int)) := by
    rw [max2_int]
    have : (if e < -e then -e else e) = (e.natAbs : Int) := by split <;> omega
    rw [this]
  have hna : (e.natAbs : Int) ≤ 30 := by omega
  clear hcx x1
  go_enter Try.func5, Try.ntmps5
  go_wp2_with fail
  go_loop [7, 8] (fun x y => ∃ (sb : ByteArray) (i : Nat), x = .string sb ∧ y = .int .i64 i ∧ i ≤ n ∧ sb.size ≤ i + 1 ∧ Aside0 (sb.data.toList = onesT (n - b) i)) (fun _ y => n - (intOf y).toNat)
  case atStart => exact ⟨⟨#[]⟩, 0, rfl, rfl, by omega, by simp [lit_size], ⟨by simp [onesT]⟩⟩
  case round =>
    obtain ⟨sb, i, rfl, rfl, hi, hsb, HS⟩ := hrel
    by_cases hlt : i < n
    · by_cases hp : i = n - b
      · have f1 : ((i : Int) == (n : Int) - (b : Int)) = true := by rw [beq_iff_eq]; omega
        have HL : Aside0 ((sb ++ (⟨#[46]⟩ : ByteArray) ++ (⟨#[49]⟩ : ByteArray)).data.toList = onesT (n - b) (i + 1)) := ⟨by simp only [app_list, HS.out]; rw [hp, onesT_at]⟩
        have hsz2 : (sb ++ (⟨#[46]⟩ : ByteArray) ++ (⟨#[49]⟩ : ByteArray)).size ≤ i + 1 + 1 := by
          rw [← toList_size, HL.out]; exact onesT_len _ _
        clear hp
        go_wp2_with fail
        go_round
        case rel => exact ⟨_, i + 1, rfl, by go_num, by omega, hsz2, HL⟩
        case measure => simp [intOf]; omega
      · have f1 : ((i : Int) == (n : Int) - (b : Int)) = false := by rw [beq_eq_false_iff_ne]; omega
        have HL : Aside0 ((sb ++ (⟨#[49]⟩ : ByteArray)).data.toList = onesT (n - b) (i + 1)) := ⟨by simp only [app_list, HS.out]; rw [onesT_step hp]⟩
        have hsz2 : (sb ++ (⟨#[49]⟩ : ByteArray)).size ≤ i + 1 + 1 := by
          rw [← toList_size, HL.out]; exact onesT_len _ _
        clear hp
        go_wp2_with fail
        go_round
        case rel => exact ⟨_, i + 1, rfl, by go_num, by omega, hsz2, HL⟩
        case measure => simp [intOf]; omega
    · have hin : i = n := by omega
      subst hin
      have hsz : (sb ++ (⟨#[69]⟩ : ByteArray) ++ ((⟨#[45]⟩ : ByteArray) ++ xb)).size ≤ 200 := by simp [lit_size]; omega
      have hlist : (sb ++ (⟨#[69]⟩ : ByteArray) ++ ((⟨#[45]⟩ : ByteArray) ++ xb)).data.toList = onesT (i - b) i ++ 69 :: ([45] ++ decL e.natAbs) := by simp only [app_list, HS.out, HX.out]; simp
      obtain ⟨v, hv⟩ : ∃ v, formF (List.replicate i 49) b (e, true) = v := ⟨_, rfl⟩
      have P1 := Aside0.mk (parse_bytes (sb ++ (⟨#[69]⟩ : ByteArray) ++ ((⟨#[45]⟩ : ByteArray) ++ xb)) _ v hsz hlist ((bounds_form i b e [45] hn hb he1 he2 (.inr ⟨hc, rfl⟩)).trans hv))
      by_cases hw : i ≤ 15 ∧ -22 ≤ e - b ∧ e - b ≤ 22
      · obtain ⟨r, hr, hg⟩ := bounds_yes i b e hn hw.1 hw.2.1 hw.2.2
        have hvr : v = some r := hv.symm.trans hr
        subst hvr
        obtain ⟨w1, w2, w3⟩ := hw
        clear hr hv hsz hlist
        go_wp2_with fail
        refine (CX.out _).mono ?_
        rintro e' w1 ⟨rfl, hb1⟩
        have HB1 := Aside0.mk hb1
        clear hb1
        go_wp2_with fail
        refine (P1.out _).mono ?_
        rintro e' w2 ⟨rfl, hb2⟩
        have HB2 := Aside0.mk (below_two HB1.out hb2)
        clear hb2
        go_wp2_with fail
        refine (CK.out _).mono ?_
        rintro e' w3 ⟨rfl, hb3⟩
        have HB3 := Aside0.mk (below_two HB2.out hb3)
        clear hb3
        go_wp2_with fail
        go_ret
        exact ⟨rfl, HB3.out⟩
      · have hvr : v = none := hv.symm.trans (bounds_no i b e hw)
        subst hvr
        have hg : (FloatKind.f64.format.order 0 0 == some Ordering.gt) = false := by decide +kernel
        have hw2 : 15 < i ∨ (i ≤ 15 ∧ e - b < -22) ∨ (i ≤ 15 ∧ -22 ≤ e - b ∧ 22 < e - b) := by omega
        have hf3 : 22 < e - b → decide (e - (b : Int) ≤ 22) = false := fun h => decide_eq_false (by omega)
        clear hv hsz hlist hw
        rcases hw2 with a1 | ⟨a1, a2⟩ | ⟨a1, a2, a3⟩
        all_goals try (exfalso; omega)
        all_goals
          first | (have f3 := hf3 (by assumption)) | skip
          clear hf3
          go_wp2_with fail
          refine (CX.out _).mono ?_
          rintro e' w1 ⟨rfl, hb1⟩
          have HB1 := Aside0.mk hb1
          clear hb1
          go_wp2_with fail
          refine (P1.out _).mono ?_
          rintro e' w2 ⟨rfl, hb2⟩
          have HB2 := Aside0.mk (below_two HB1.out hb2)
          clear hb2
          go_wp2_with fail
          refine (CK.out _).mono ?_
          rintro e' w3 ⟨rfl, hb3⟩
          have HB3 := Aside0.mk (below_two HB2.out hb3)
          clear hb3
          go_wp2_with fail
          go_ret
          exact ⟨rfl, HB3.out⟩
set_option maxRecDepth 100000 in
set_option maxHeartbeats 1000000 in
theorem bounds_law (n e b : Int) (w : World) (hn : (Lit.int .i64 n).wf = true) (he : (Lit.int .i64 e).wf = true) (hb : (Lit.int .i64 b).wf = true) :
    Calls Try.prog 5 #[.int .i64 n, .int .i64 e, .int .i64 b] w fun e w' => e = .returned (.bool true) ∧ Below w.heap.size w w' := by
  by_cases h1 : 1 ≤ n ∧ n ≤ 20 ∧ -30 ≤ e ∧ e ≤ 30 ∧ 0 ≤ b ∧ b ≤ n
  · obtain ⟨k, rfl⟩ := Int.eq_ofNat_of_zero_le (a := n) (by omega)
    obtain ⟨j, rfl⟩ := Int.eq_ofNat_of_zero_le (a := b) (by omega)
    by_cases hc : 0 ≤ e
    · exact bounds_pos k j e (by omega) (by omega) (by omega) (by omega) (by omega) hc w
    · exact bounds_neg k j e (by omega) (by omega) (by omega) (by omega) (by omega) (by omega) w
  · have h : n < 1 ∨ (1 ≤ n ∧ 20 < n) ∨ (1 ≤ n ∧ n ≤ 20 ∧ e < -30) ∨ (1 ≤ n ∧ n ≤ 20 ∧ -30 ≤ e ∧ 30 < e) ∨ (1 ≤ n ∧ n ≤ 20 ∧ -30 ≤ e ∧ e ≤ 30 ∧ b < 0) ∨ (1 ≤ n ∧ n ≤ 20 ∧ -30 ≤ e ∧ e ≤ 30 ∧ 0 ≤ b ∧ n < b) := by omega
    clear h1
    rcases h with h | ⟨h, h2⟩ | ⟨h, h2, h3⟩ | ⟨h, h2, h3, h4⟩ | ⟨h, h2, h3, h4, h5⟩ | ⟨h, h2, h3, h4, h5, h6⟩
    all_goals
      go_enter Try.func5, Try.ntmps5
      go_wp2_with fail
      go_ret
      exact ⟨rfl, Below.refl _ _⟩
end Go.Proofs.Ytmenjcjpihpjjaa.Fb
