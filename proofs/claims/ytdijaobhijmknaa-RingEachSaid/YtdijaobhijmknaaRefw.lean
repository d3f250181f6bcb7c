/- The walks of triviumref7. -/
import Derived.Test.YtdijaobhijmknaaDist
set_option linter.unusedSimpArgs false
set_option linter.unusedVariables false
namespace Go.Proofs.Ytdijaobhijmknaa.Rw
open Go.RowKit Go.Proofs.YtdijaobhijmknaaW.PrintWords Go.Proofs.YtdijaobhijmknaaW.PrintLast Go.Proofs.YtdijaobhijmknaaW.PrintMore Go.Proofs.Ytdijaobhijmknaa.Bs Go.Proofs.Ytdijaobhijmknaa.PM Go.Proofs.Ytdijaobhijmknaa.Pk Go.Proofs.Ytdijaobhijmknaa.WM Go.Proofs.Ytdijaobhijmknaa.SM Go.Proofs.Ytdijaobhijmknaa.Wv

/-- What cut leaves: a slice that shows the part. -/
def CutP (w : World) (xs : List Int) (e : Ending) (w' : World) : Prop := w = w' ∧ ∃ A c, e = .returned (.slice A xs.length c) ∧ xs.length ≤ c ∧ Kd.C (Kd.int .i64) w A xs.length xs
section
attribute [local go_sem] max_two min_two
theorem refCut {n : Nat} {l : List Int} (hn : l.length = n) (A : Option Addr) (c : Nat) (a b : Int) (w : World) (hr : Kd.C (Kd.int .i64) w A n l) (hl : n ≤ c) (hlen : n ≤ 1000) :
    Calls Try.prog 74 #[.slice A n c, .int .i64 a, .int .i64 b] w (CutP w (cutI l a b)) := by
  subst hn
  obtain ⟨F0, hF0⟩ : ∃ F : Int, F = if a < 0 then 0 else a := ⟨_, rfl⟩
  obtain ⟨T0, hT0⟩ : ∃ F : Int, F = if b < 0 then 0 else b := ⟨_, rfl⟩
  obtain ⟨F, hF⟩ : ∃ F : Int, F = if (l.length : Int) < F0 then (l.length : Int) else F0 := ⟨_, rfl⟩
  obtain ⟨T, hT⟩ : ∃ F : Int, F = if (l.length : Int) < T0 then (l.length : Int) else T0 := ⟨_, rfl⟩
  have hFn : 0 ≤ F := by split at hF0 <;> split at hF <;> omega
  have hTn : 0 ≤ T := by split at hT0 <;> split at hT <;> omega
  have hTl : T ≤ l.length := by split at hT <;> omega
  have hFl : F ≤ l.length := by split at hF <;> omega
  have eF : F = if (l.length : Int) < (if a < 0 then 0 else a) then (l.length : Int) else (if a < 0 then 0 else a) := by rw [hF, hF0]
  have eT : T = if (l.length : Int) < (if b < 0 then 0 else b) then (l.length : Int) else (if b < 0 then 0 else b) := by rw [hT, hT0]
  by_cases hft : F < T
  · have hcut := cutR_some eF eT hft
    obtain ⟨A', hA'⟩ : ∃ A', A' = if c = F.toNat then A else A.map (·.add (F.toNat * 1)) := ⟨_, rfl⟩
    obtain ⟨i0, hi0, hi1⟩ := info_int_at
    have hsl := cut_mid (P := Try.prog) 26 3 .i64 .i64 Try.underlying26 hi0 1 hi1 A l.length c F T hFn (by omega) hTl hl
    rw [← hA'] at hsl
    have hmid := Kd.C_mid (lo := F.toNat) (hi := T.toNat) hr (by omega) (by omega) hl
    have hlen2 : ((l.take T.toNat).drop F.toNat).length = T.toNat - F.toNat := by rw [List.length_drop, List.length_take]; omega
    rw [hcut]
    have HM : Aside0 (Kd.C (Kd.int .i64) w A' ((l.take T.toNat).drop F.toNat).length ((l.take T.toNat).drop F.toNat)) := ⟨by rw [hA']; exact hmid⟩
    have HL := Aside0.mk hlen2
    have hft2 : ¬ T ≤ F := by omega
    have HCL : Aside0 (T.toNat - F.toNat ≤ c - F.toNat) := ⟨by omega⟩
    have f1 : Builtin.max2 (.int .i64 a) (.int .i64 0) = pure (.int .i64 F0) := by rw [max2_int, ← hF0]
    have f2 : Builtin.max2 (.int .i64 b) (.int .i64 0) = pure (.int .i64 T0) := by rw [max2_int, ← hT0]
    have f3 : Builtin.min2 (.int .i64 F0) (.int .i64 l.length) = pure (.int .i64 F) := by rw [min2_int, ← hF]
    have f4 : Builtin.min2 (.int .i64 T0) (.int .i64 l.length) = pure (.int .i64 T) := by rw [min2_int, ← hT]
    clear eF eT hF hT hF0 hT0 hcut hA' hmid hlen2 hr hi0 hi1
    go_enter Try.func74, Try.ntmps74
    go_wp2
    go_ret
    exact ⟨rfl, A', _, by rw [HL.out]; rfl, by rw [HL.out]; exact HCL.out, HM.out⟩
  · have hcut := cutR_none eF eT hft
    have f1 : Builtin.max2 (.int .i64 a) (.int .i64 0) = pure (.int .i64 F0) := by rw [max2_int, ← hF0]
    have f2 : Builtin.max2 (.int .i64 b) (.int .i64 0) = pure (.int .i64 T0) := by rw [max2_int, ← hT0]
    have f3 : Builtin.min2 (.int .i64 F0) (.int .i64 l.length) = pure (.int .i64 F) := by rw [min2_int, ← hF]
    have f4 : Builtin.min2 (.int .i64 T0) (.int .i64 l.length) = pure (.int .i64 T) := by rw [min2_int, ← hT]
    rw [hcut]
    have hft2 : T ≤ F := by omega
    clear eF eT hF hT hF0 hT0 hcut hr
    go_enter Try.func74, Try.ntmps74
    go_wp2
    go_ret
    exact ⟨rfl, none, 0, rfl, Nat.le_refl _, Kd.C_of_reads (d := (0 : Int)) (h1 := fun _ => rfl) (ReadsInt.nil _ _)⟩
end
attribute [local go_sem] max2_int min2_int max_two min_two
/-- The loop of Count over what part tells. -/
theorem refCount_of {v : Value} {w : World} {xs : List Int} (hx : xs.length ≤ 1000) (a b lo hi : Int)
    (hp : Calls Try.prog 74 #[v, .int .i64 a, .int .i64 b] w (CutP w xs)) :
    Calls Try.prog 56 #[v, .int .i64 a, .int .i64 b, .int .i64 lo, .int .i64 hi] w fun e w' => e = .returned (.int .i64 (countI xs lo hi : Int)) ∧ w = w' := by
  have C1 := Aside0.mk hp
  clear hp
  go_enter Try.func56, Try.ntmps56
  go_wp2_with (first | (go_at_call 74; (with_reducible refine C1.out.mono ?_); rintro e w1 ⟨rfl, A, c, rfl, hc, hr⟩; have HR := Aside0.mk hr; clear hr))
  go_loop [11, 13] (fun x y => ∃ i n : Nat, x = .int .i64 n ∧ y = .int .i64 i ∧ i ≤ xs.length ∧ n ≤ i ∧ Aside0 (n = countI (xs.take i) lo hi)) (fun _ y => xs.length - (intOf y).toNat)
  case atStart => exact ⟨0, 0, rfl, rfl, by omega, by omega, ⟨by simp [countI]⟩⟩
  case round =>
    obtain ⟨i, n, rfl, rfl, hi_, hn, HE⟩ := hrel
    by_cases hlt : i < xs.length
    · obtain ⟨ad, e1, hcell⟩ := at_arg HR.out i hlt
      cases e1
      have HS := Aside0.mk (countI_step xs i hlt lo hi)
      by_cases h1 : lo ≤ rd xs i <;> by_cases h2 : rd xs i ≤ hi
      · go_wp2
        go_round
        case rel => exact ⟨i + 1, n + 1, by go_num, by go_num, by omega, by omega, ⟨by rw [HS.out, if_pos ⟨h1, h2⟩, HE.out]⟩⟩
        case measure => simp [intOf]; omega
      all_goals
        go_wp2
        go_round
        case rel => exact ⟨i + 1, n, by go_num, by go_num, by omega, by omega, ⟨by rw [HS.out, if_neg (by omega), HE.out, Nat.add_zero]⟩⟩
        case measure => simp [intOf]; omega
    · have hin : i = xs.length := by omega
      subst hin
      go_wp2
      go_ret
      refine ⟨?_, rfl⟩
      have := HE.out
      rw [List.take_length] at this
      rw [← this]
      rfl
theorem refNext_of {v : Value} {w : World} {xs : List Int} (hx : xs.length ≤ 1000) (a b lo : Int)
    (hp : Calls Try.prog 74 #[v, .int .i64 a, .int .i64 b] w (CutP w xs)) :
    Calls Try.prog 57 #[v, .int .i64 a, .int .i64 b, .int .i64 lo] w fun e w' => e = .returned (.int .i64 (nextI xs lo)) ∧ w = w' := by
  have C1 := Aside0.mk hp
  clear hp
  go_enter Try.func57, Try.ntmps57
  go_wp2_with (first | (go_at_call 74; (with_reducible refine C1.out.mono ?_); rintro e w1 ⟨rfl, A, c, rfl, hc, hr⟩; have HR := Aside0.mk hr; clear hr))
  go_loop [9, 11] (fun x y => ∃ (i : Nat) (n : Int), x = .int .i64 n ∧ y = .int .i64 i ∧ i ≤ xs.length ∧ Aside0 (n = nextI (xs.take i) lo)) (fun _ y => xs.length - (intOf y).toNat)
  case atStart => exact ⟨0, -1, rfl, rfl, by omega, ⟨by simp [nextI]⟩⟩
  case round =>
    obtain ⟨i, n, rfl, rfl, hi_, HE⟩ := hrel
    by_cases hlt : i < xs.length
    · obtain ⟨ad, e1, hcell⟩ := at_arg HR.out i hlt
      cases e1
      have HS := Aside0.mk (nextI_step xs i hlt lo)
      by_cases h1 : lo ≤ rd xs i
      · by_cases h2 : n < 0
        · go_wp2
          go_round
          case rel => exact ⟨i + 1, rd xs i, by go_num, by go_num, by omega, ⟨by rw [HS.out, ← HE.out]; unfold better; rw [if_pos ⟨h1, .inl h2⟩]⟩⟩
          case measure => simp [intOf]; omega
        · by_cases h3 : rd xs i < n
          · go_wp2
            go_round
            case rel => exact ⟨i + 1, rd xs i, by go_num, by go_num, by omega, ⟨by rw [HS.out, ← HE.out]; unfold better; rw [if_pos ⟨h1, .inr h3⟩]⟩⟩
            case measure => simp [intOf]; omega
          · go_wp2
            go_round
            case rel => exact ⟨i + 1, n, by go_num, by go_num, by omega, ⟨by rw [HS.out, ← HE.out]; unfold better; rw [if_neg (fun h => by omega)]⟩⟩
            case measure => simp [intOf]; omega
      · go_wp2
        go_round
        case rel => exact ⟨i + 1, n, by go_num, by go_num, by omega, ⟨by rw [HS.out, ← HE.out]; unfold better; rw [if_neg (fun h => h1 h.1)]⟩⟩
        case measure => simp [intOf]; omega
    · have hin : i = xs.length := by omega
      subst hin
      go_wp2
      go_ret
      refine ⟨?_, rfl⟩
      have := HE.out
      rw [List.take_length] at this
      rw [← this]
      rfl
theorem refCount {n : Nat} {l : List Int} (hn : l.length = n) (A : Option Addr) (c : Nat) (a b lo hi : Int) (w : World) (hr : Kd.C (Kd.int .i64) w A n l) (hl : n ≤ c) (hlen : n ≤ 1000) :
    Calls Try.prog 56 #[.slice A n c, .int .i64 a, .int .i64 b, .int .i64 lo, .int .i64 hi] w fun e w' => e = .returned (.int .i64 (countI (cutI l a b) lo hi : Int)) ∧ w = w' :=
  refCount_of (by have := cutI_length_le l a b; omega) a b lo hi (refCut hn A c a b w hr hl hlen)
theorem refNext {n : Nat} {l : List Int} (hn : l.length = n) (A : Option Addr) (c : Nat) (a b lo : Int) (w : World) (hr : Kd.C (Kd.int .i64) w A n l) (hl : n ≤ c) (hlen : n ≤ 1000) :
    Calls Try.prog 57 #[.slice A n c, .int .i64 a, .int .i64 b, .int .i64 lo] w fun e w' => e = .returned (.int .i64 (nextI (cutI l a b) lo)) ∧ w = w' :=
  refNext_of (by have := cutI_length_le l a b; omega) a b lo (refCut hn A c a b w hr hl hlen)
theorem refRank {n : Nat} {l : List Int} (hn : l.length = n) (A : Option Addr) (c : Nat) (x i : Int) (w : World) (hr : Kd.C (Kd.int .i64) w A n l) (hl : n ≤ c) (hlen : n ≤ 1000) :
    Calls Try.prog 41 #[.slice A n c, .int .i64 x, .int .i64 i] w fun e w' => e = .returned (.int .i64 (countI (cutI l 0 i) x x : Int)) ∧ w = w' := by
  subst hn
  have HR := Aside0.mk hr
  have HC : Aside0 (cutI l 0 i = l.take i.toNat) := ⟨by unfold cutI; simp⟩
  rw [HC.out]
  clear hr
  go_enter Try.func41, Try.ntmps41
  go_wp2
  go_loop [7, 8] (fun y z => ∃ k m : Nat, y = .int .i64 m ∧ z = .int .i64 k ∧ k ≤ l.length ∧ m ≤ k ∧ (k : Int) ≤ i.toNat ∧ Aside0 (m = countI (l.take k) x x)) (fun _ z => l.length - (intOf z).toNat)
  case atStart => exact ⟨0, 0, rfl, rfl, by omega, by omega, by omega, ⟨by simp [countI]⟩⟩
  case round =>
    obtain ⟨k, m, rfl, rfl, hk, hm, hki, HE⟩ := hrel
    by_cases h1 : (k : Int) < i
    · by_cases hlt : k < l.length
      · obtain ⟨ad, e1, hcell⟩ := at_arg HR.out k hlt
        cases e1
        have HS := Aside0.mk (countI_step l k hlt x x)
        by_cases h2 : rd l k = x
        · have h3 : (rd l (k : Int) == x) = true := by simp [h2]
          have H2 := Aside0.mk h2
          clear h2
          go_wp2
          go_round
          case rel => exact ⟨k + 1, m + 1, by go_num, by go_num, by omega, by omega, by omega, ⟨by rw [HS.out, if_pos (by have := H2.out; omega), HE.out]⟩⟩
          case measure => simp [intOf]; omega
        · have h3 : (rd l (k : Int) == x) = false := by simp [h2]
          have H2 := Aside0.mk h2
          clear h2
          go_wp2
          go_round
          case rel => exact ⟨k + 1, m, by go_num, by go_num, by omega, by omega, by omega, ⟨by rw [HS.out, if_neg (by have := H2.out; omega), HE.out, Nat.add_zero]⟩⟩
          case measure => simp [intOf]; omega
      · have HK : Aside0 (l.take i.toNat = l.take k) := ⟨by rw [List.take_of_length_le (by omega), List.take_of_length_le (by omega)]⟩
        go_wp2
        go_ret
        exact ⟨by rw [HK.out, ← HE.out]; rfl, rfl⟩
    · have HK : Aside0 (i.toNat = k) := ⟨by omega⟩
      go_wp2
      go_ret
      exact ⟨by rw [HK.out, ← HE.out]; rfl, rfl⟩
theorem refSelect {n : Nat} {l : List Int} (hn : l.length = n) (A : Option Addr) (c : Nat) (x k : Int) (w : World) (hr : Kd.C (Kd.int .i64) w A n l) (hl : n ≤ c) (hlen : n ≤ 1000) :
    Calls Try.prog 43 #[.slice A n c, .int .i64 x, .int .i64 k] w fun e w' => e = .returned (.int .i64 (selectI x k l 0)) ∧ w = w' := by
  subst hn
  have HR := Aside0.mk hr
  clear hr
  go_enter Try.func43, Try.ntmps43
  go_wp2
  go_loop [7, 8] (fun y z => ∃ i j : Nat, y = .int .i64 j ∧ z = .int .i64 i ∧ i ≤ l.length ∧ j ≤ i ∧ Aside0 (selectI x (k - j) (l.drop i) i = selectI x k l 0)) (fun _ z => l.length - (intOf z).toNat)
  case atStart => exact ⟨0, 0, rfl, rfl, by omega, by omega, ⟨by simp⟩⟩
  case round =>
    obtain ⟨i, j, rfl, rfl, hi_, hj, HE⟩ := hrel
    by_cases hlt : i < l.length
    · obtain ⟨ad, e1, hcell⟩ := at_arg HR.out i hlt
      cases e1
      have HS : Aside0 (selectI x k l 0 = if rd l i = x then (if k - j = 0 then (i : Int) else selectI x (k - j - 1) (l.drop (i + 1)) (i + 1)) else selectI x (k - j) (l.drop (i + 1)) (i + 1)) := ⟨by
        rw [← HE.out, drop_rd l i hlt]; rfl⟩
      by_cases h2 : rd l i = x
      · have h3 : (rd l (i : Int) == x) = true := by simp [h2]
        have H2 := Aside0.mk h2
        clear h2
        by_cases h4 : k - j = 0
        · have h5 : ((j : Int) == k) = true := by simp; omega
          have H4 := Aside0.mk h4
          clear h4
          go_wp2
          go_ret
          refine ⟨?_, rfl⟩
          rw [HS.out, if_pos H2.out, if_pos H4.out]
          rfl
        · have h5 : ((j : Int) == k) = false := by simp; omega
          have H4 := Aside0.mk h4
          clear h4
          go_wp2
          go_round
          case rel => exact ⟨i + 1, j + 1, by go_num, by go_num, by omega, by omega, ⟨by rw [HS.out, if_pos H2.out, if_neg H4.out]; congr 1; omega⟩⟩
          case measure => simp [intOf]; omega
      · have h3 : (rd l (i : Int) == x) = false := by simp [h2]
        have H2 := Aside0.mk h2
        clear h2
        go_wp2
        go_round
        case rel => exact ⟨i + 1, j, rfl, by go_num, by omega, by omega, ⟨by rw [HS.out, if_neg H2.out]; congr 1⟩⟩
        case measure => simp [intOf]; omega
    · have hin : i = l.length := by omega
      subst hin
      go_wp2
      go_ret
      refine ⟨?_, rfl⟩
      have := HE.out
      rw [List.drop_length] at this
      rw [← this]
      rfl
end Go.Proofs.Ytdijaobhijmknaa.Rw
