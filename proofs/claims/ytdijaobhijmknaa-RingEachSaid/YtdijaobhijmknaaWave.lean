/- The walks of package wave. -/
import Derived.Test.YtdijaobhijmknaaPack
import Derived.Test.YtdijaobhijmknaaWaveM
set_option linter.unusedSimpArgs false
set_option linter.unusedVariables false
namespace Go.Proofs.Ytdijaobhijmknaa.Wv
open Go.RowKit Go.Proofs.YtdijaobhijmknaaW.PrintWords Go.Proofs.YtdijaobhijmknaaW.PrintLast Go.Proofs.YtdijaobhijmknaaW.PrintMore Go.Proofs.Ytdijaobhijmknaa.Bs Go.Proofs.Ytdijaobhijmknaa.PM Go.Proofs.Ytdijaobhijmknaa.Pk Go.Proofs.Ytdijaobhijmknaa.WM
attribute [local go_sem] max2_int min2_int max_two min_two

/-- v is a Wave of the numbers l. -/
def IsWave (w : World) (v : Value) (l : List Int) : Prop :=
  ∃ b A c, v = .pointer (some ⟨b, 0, none⟩) ∧ w.cell? ⟨b, 0, none⟩ = some (.slice A l.length c) ∧ l.length ≤ c ∧ Kd.C (Kd.int .i64) w A l.length l
theorem IsWave.below {w w1 : World} {v : Value} {l : List Int} (h : IsWave w v l) (hb : Below w.heap.size w w1) : IsWave w1 v l := by
  obtain ⟨b, A, c, rfl, hc, hl, hr⟩ := h
  exact ⟨b, A, c, rfl, (hb.cell (World.block_lt_of_cell? w _ hc)).trans hc, hl, Kd.C_below hr hb⟩
theorem len_any {v : Value} {l : List Int} {w : World} (h : IsWave w v l) : Calls Try.prog 39 #[v] w fun e w' => e = .returned (.int .i64 (l.length : Int)) ∧ w = w' := by
  obtain ⟨b, A, c, rfl, hc, hl, hr⟩ := h
  clear hl hr
  go_enter Try.func39, Try.ntmps39
  go_wp2
  go_ret
  exact ⟨rfl, rfl⟩
theorem len_nil (w : World) : Calls Try.prog 39 #[.pointer none] w fun e w' => e = .returned (.int .i64 0) ∧ w = w' := by
  go_enter Try.func39, Try.ntmps39
  go_wp2
  go_ret
  exact ⟨rfl, rfl⟩
theorem part_nil (a b : Int) (w : World) : Calls Try.prog 65 #[.pointer none, .int .i64 a, .int .i64 b] w fun e w' => e = .returned (.slice none 0 0) ∧ w = w' := by
  have C1 := Aside0.mk (len_nil w)
  obtain ⟨F, hF⟩ : ∃ F : Int, F = if a < 0 then 0 else a := ⟨_, rfl⟩
  obtain ⟨T, hT⟩ : ∃ T : Int, T = if 0 < b then 0 else b := ⟨_, rfl⟩
  have h : T ≤ F := by split at hF <;> split at hT <;> omega
  have hF' := hF.symm
  have hT' := hT.symm
  clear hF hT
  go_enter Try.func65, Try.ntmps65
  go_wp2_with (first | (go_at_call 39; (with_reducible refine C1.out.mono ?_); rintro e w1 ⟨rfl, rfl⟩))
  go_ret
  exact ⟨rfl, rfl⟩
/-- part: what lies in the range, where it lies. -/
theorem part_any {v : Value} {l : List Int} {w : World} (h : IsWave w v l) (a b : Int) (hlen : l.length ≤ 1000) :
    Calls Try.prog 65 #[v, .int .i64 a, .int .i64 b] w fun e w' => w = w' ∧ ∃ A c, e = .returned (.slice A (cutI l a b).length c) ∧ (cutI l a b).length ≤ c ∧ Kd.C (Kd.int .i64) w A (cutI l a b).length (cutI l a b) := by
  have C1 := Aside0.mk (len_any h)
  obtain ⟨bb, A, c, rfl, hc, hl, hr⟩ := h
  obtain ⟨F, hF⟩ : ∃ F : Int, F = if a < 0 then 0 else a := ⟨_, rfl⟩
  obtain ⟨T, hT⟩ : ∃ T : Int, T = if (l.length : Int) < b then (l.length : Int) else b := ⟨_, rfl⟩
  have hF0 : 0 ≤ F := by split at hF <;> omega
  have hTl : T ≤ l.length := by split at hT <;> omega
  by_cases hft : F < T
  · have hcut := cutI_some hF hT hft
    have hF' := hF.symm
    have hT' := hT.symm
    obtain ⟨A', hA'⟩ : ∃ A', A' = if c = F.toNat then A else A.map (·.add (F.toNat * 1)) := ⟨_, rfl⟩
    obtain ⟨i0, hi0, hi1⟩ := info_int_at
    have hsl := cut_mid (P := Try.prog) 26 3 .i64 .i64 Try.underlying26 hi0 1 hi1 A l.length c F T hF0 (by omega) hTl hl
    rw [← hA'] at hsl
    have hmid := Kd.C_mid (lo := F.toNat) (hi := T.toNat) hr (by omega) (by omega) hl
    have hlen2 : ((l.take T.toNat).drop F.toNat).length = T.toNat - F.toNat := by rw [List.length_drop, List.length_take]; omega
    rw [hcut]
    rw [hlen2] at hmid ⊢
    have HM : Aside0 (Kd.C (Kd.int .i64) w A' (T.toNat - F.toNat) ((l.take T.toNat).drop F.toNat)) := ⟨by rw [hA']; exact hmid⟩
    have hft2 : ¬ T ≤ F := by omega
    have HCL : Aside0 (T.toNat - F.toNat ≤ c - F.toNat) := ⟨by omega⟩
    clear hF hT hcut hA' hmid hlen2 hr hi0 hi1
    go_enter Try.func65, Try.ntmps65
    go_wp2_with (first | (go_at_call 39; (with_reducible refine C1.out.mono ?_); rintro e w1 ⟨rfl, rfl⟩))
    go_ret
    exact ⟨rfl, A', _, rfl, HCL.out, HM.out⟩
  · have hcut := cutI_none hF hT hft
    have hF' := hF.symm
    have hT' := hT.symm
    rw [hcut]
    have hft2 : T ≤ F := by omega
    clear hF hT hcut hr
    go_enter Try.func65, Try.ntmps65
    go_wp2_with (first | (go_at_call 39; (with_reducible refine C1.out.mono ?_); rintro e w1 ⟨rfl, rfl⟩))
    go_ret
    refine ⟨rfl, none, 0, rfl, Nat.le_refl _, Kd.C_of_reads (d := (0 : Int)) (h1 := fun _ => rfl) (ReadsInt.nil _ _)⟩
theorem access_any {v : Value} {l : List Int} {w : World} (h : IsWave w v l) (i : Int) (hlen : l.length ≤ 1000) :
    Calls Try.prog 40 #[v, .int .i64 i] w fun e w' => e = .returned (.int .i64 (if 0 ≤ i ∧ i < l.length then rd l i else -1)) ∧ w = w' := by
  have C1 := Aside0.mk (len_any h)
  obtain ⟨bb, A, c, rfl, hc, hl, hr⟩ := h
  by_cases h1 : i < 0
  · have hv : Aside0 ((if 0 ≤ i ∧ i < (l.length : Int) then rd l i else -1) = -1) := ⟨if_neg (by omega)⟩
    rw [hv.out]
    clear hr
    go_enter Try.func40, Try.ntmps40
    go_wp2
    go_ret
    exact ⟨rfl, rfl⟩
  · by_cases h2 : i < l.length
    · have hv : Aside0 ((if 0 ≤ i ∧ i < (l.length : Int) then rd l i else -1) = rd l i) := ⟨if_pos (by omega)⟩
      rw [hv.out]
      obtain ⟨ad, e1, hx⟩ := Kd.at_int hr i (by omega) (by omega)
      cases e1
      clear hr
      have h3 : ¬ (l.length : Int) ≤ i := by omega
      go_enter Try.func40, Try.ntmps40
      go_wp2_with (first | (go_at_call 39; (with_reducible refine C1.out.mono ?_); rintro e w1 ⟨rfl, rfl⟩))
      go_ret
      exact ⟨rfl, rfl⟩
    · have hv : Aside0 ((if 0 ≤ i ∧ i < (l.length : Int) then rd l i else -1) = -1) := ⟨if_neg (by omega)⟩
      rw [hv.out]
      clear hr
      have h3 : (l.length : Int) ≤ i := by omega
      go_enter Try.func40, Try.ntmps40
      go_wp2_with (first | (go_at_call 39; (with_reducible refine C1.out.mono ?_); rintro e w1 ⟨rfl, rfl⟩))
      go_ret
      exact ⟨rfl, rfl⟩
theorem access_nil (i : Int) (w : World) : Calls Try.prog 40 #[.pointer none, .int .i64 i] w fun e w' => e = .returned (.int .i64 (-1)) ∧ w = w' := by
  have C1 := Aside0.mk (len_nil w)
  by_cases h1 : i < 0
  · go_enter Try.func40, Try.ntmps40
    go_wp2
    go_ret
    exact ⟨rfl, rfl⟩
  · go_enter Try.func40, Try.ntmps40
    go_wp2_with (first | (go_at_call 39; (with_reducible refine C1.out.mono ?_); rintro e w1 ⟨rfl, rfl⟩))
    go_ret
    exact ⟨rfl, rfl⟩
/-- The loop of Count over what part tells. -/
theorem count_of {v : Value} {w : World} {xs : List Int} (hx : xs.length ≤ 1000) (a b lo hi : Int)
    (hp : Calls Try.prog 65 #[v, .int .i64 a, .int .i64 b] w fun e w' => w = w' ∧ ∃ A c, e = .returned (.slice A xs.length c) ∧ xs.length ≤ c ∧ Kd.C (Kd.int .i64) w A xs.length xs) :
    Calls Try.prog 36 #[v, .int .i64 a, .int .i64 b, .int .i64 lo, .int .i64 hi] w fun e w' => e = .returned (.int .i64 (countI xs lo hi : Int)) ∧ w = w' := by
  have C1 := Aside0.mk hp
  clear hp
  go_enter Try.func36, Try.ntmps36
  go_wp2_with (first | (go_at_call 65; (with_reducible refine C1.out.mono ?_); rintro e w1 ⟨rfl, A, c, rfl, hc, hr⟩; have HR := Aside0.mk hr; clear hr))
  go_loop [11, 19] (fun x y => ∃ i n : Nat, x = .int .i64 n ∧ y = .int .i64 i ∧ i ≤ xs.length ∧ n ≤ i ∧ Aside0 (n = countI (xs.take i) lo hi)) (fun _ y => xs.length - (intOf y).toNat)
  case atStart => exact ⟨0, 0, rfl, rfl, by omega, by omega, ⟨by simp [countI]⟩⟩
  case round =>
    obtain ⟨i, n, rfl, rfl, hi_, hn, HE⟩ := hrel
    by_cases hlt : i < xs.length
    · obtain ⟨ad, e1, hcell⟩ := at_arg HR.out i hlt
      cases e1
      have HS := Aside0.mk (countI_step xs i hlt lo hi)
      by_cases h1 : lo ≤ rd xs i <;> by_cases h2 : rd xs i ≤ hi
      · go_wp2
        go_round
        case rel => exact ⟨i + 1, n + 1, by go_num, by go_num, by omega, by omega, ⟨by rw [HS.out, if_pos ⟨h1, h2⟩, HE.out]⟩⟩
        case measure => simp [intOf]; omega
      all_goals
        go_wp2
        go_round
        case rel => exact ⟨i + 1, n, by go_num, by go_num, by omega, by omega, ⟨by rw [HS.out, if_neg (by omega), HE.out, Nat.add_zero]⟩⟩
        case measure => simp [intOf]; omega
    · have hin : i = xs.length := by omega
      subst hin
      go_wp2
      go_ret
      refine ⟨?_, rfl⟩
      have := HE.out
      rw [List.take_length] at this
      rw [← this]
      rfl
theorem count_any {v : Value} {l : List Int} {w : World} (h : IsWave w v l) (a b lo hi : Int) (hlen : l.length ≤ 1000) :
    Calls Try.prog 36 #[v, .int .i64 a, .int .i64 b, .int .i64 lo, .int .i64 hi] w fun e w' => e = .returned (.int .i64 (countI (cutI l a b) lo hi : Int)) ∧ w = w' :=
  count_of (by have := cutI_length_le l a b; omega) a b lo hi (part_any h a b hlen)
theorem part_nil' (a b : Int) (w : World) : Calls Try.prog 65 #[.pointer none, .int .i64 a, .int .i64 b] w fun e w' => w = w' ∧ ∃ A c, e = .returned (.slice A ([] : List Int).length c) ∧ ([] : List Int).length ≤ c ∧ Kd.C (Kd.int .i64) w A ([] : List Int).length [] :=
  (part_nil a b w).mono (by rintro e w' ⟨rfl, rfl⟩; exact ⟨rfl, none, 0, rfl, Nat.le_refl _, Kd.C_of_reads (d := (0 : Int)) (h1 := fun _ => rfl) (ReadsInt.nil _ _)⟩)
theorem count_nil (w : World) (a b lo hi : Int) :
    Calls Try.prog 36 #[.pointer none, .int .i64 a, .int .i64 b, .int .i64 lo, .int .i64 hi] w fun e w' => e = .returned (.int .i64 0) ∧ w = w' :=
  count_of (xs := []) (by simp) a b lo hi (part_nil' a b w)
theorem rank_of {v : Value} {w : World} {n : Int} (x i : Int) (hp : Calls Try.prog 36 #[v, .int .i64 0, .int .i64 i, .int .i64 x, .int .i64 x] w fun e w' => e = .returned (.int .i64 n) ∧ w = w') :
    Calls Try.prog 37 #[v, .int .i64 x, .int .i64 i] w fun e w' => e = .returned (.int .i64 n) ∧ w = w' := by
  have C1 := Aside0.mk hp
  clear hp
  go_enter Try.func37, Try.ntmps37
  go_wp2_with (first | (go_at_call 36; (with_reducible refine C1.out.mono ?_); rintro e w1 ⟨rfl, rfl⟩))
  go_ret
  exact ⟨rfl, rfl⟩
theorem rank_any {v : Value} {l : List Int} {w : World} (h : IsWave w v l) (x i : Int) (hlen : l.length ≤ 1000) :
    Calls Try.prog 37 #[v, .int .i64 x, .int .i64 i] w fun e w' => e = .returned (.int .i64 (countI (cutI l 0 i) x x : Int)) ∧ w = w' := rank_of x i (count_any h 0 i x x hlen)
theorem rank_nil (w : World) (x i : Int) :
    Calls Try.prog 37 #[.pointer none, .int .i64 x, .int .i64 i] w fun e w' => e = .returned (.int .i64 0) ∧ w = w' := rank_of x i (count_nil w 0 i x x)
end Go.Proofs.Ytdijaobhijmknaa.Wv
