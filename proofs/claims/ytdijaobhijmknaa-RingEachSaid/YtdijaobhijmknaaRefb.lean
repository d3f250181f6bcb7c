/- The walks of triviumref2: Width, May, Same, Pack, Unpack. -/
import Derived.Test.YtdijaobhijmknaaUnpack
set_option linter.unusedSimpArgs false
set_option linter.unusedVariables false
namespace Go.Proofs.Ytdijaobhijmknaa.Rb
open Go.RowKit Go.Proofs.YtdijaobhijmknaaW.PrintWords Go.Proofs.YtdijaobhijmknaaW.PrintLast Go.Proofs.YtdijaobhijmknaaW.PrintMore Go.Proofs.Ytdijaobhijmknaa.Bs Go.Proofs.Ytdijaobhijmknaa.PM Go.Proofs.Ytdijaobhijmknaa.Pk
attribute [local go_sem] max2_int min2_int max_two min_two

theorem bl_half {m : Int} (h : 0 < m) : bl m = bl (m / 2) + 1 := by
  obtain ⟨x, rfl⟩ := Int.eq_ofNat_of_zero_le (by omega : 0 ≤ m)
  have e : ((x : Int) / 2) = ((x / 2 : Nat) : Int) := by simp
  rw [e]
  unfold bl
  rw [if_neg (by omega)]
  simp only [Int.toNat_natCast]
  by_cases c : 2 ≤ x
  · rw [if_neg (by omega), Nat.log2_def, if_pos c]; omega
  · have : x = 1 := by omega
    subst this; rfl
theorem bl_range (m : Int) (h : m ≤ 9223372036854775807) : 0 ≤ bl m ∧ bl m ≤ 63 := by
  by_cases h0 : m ≤ 0
  · unfold bl; rw [if_pos h0]; omega
  · have h1 := (bl_le (x := m) (by omega) 63).2 (by omega)
    refine ⟨?_, by omega⟩
    unfold bl; rw [if_neg h0]; omega
theorem bl_pos {m : Int} (h : 0 < m) : 0 < bl m := by unfold bl; rw [if_neg (by omega)]; omega
theorem bl_zero {m : Int} (h : m ≤ 0) : bl m = 0 := by unfold bl; rw [if_pos h]
theorem refWidth (n : Int) (w : World) (h1 : n ≤ 9223372036854775807) :
    Calls Try.prog 33 #[.int .i64 n] w fun e w' => e = .returned (.int .i64 (bl n)) ∧ w = w' := by
  have hbn := Aside0.mk (bl_range n h1)
  go_enter Try.func33, Try.ntmps33
  go_wp2
  go_loop [0, 3] (fun x y => ∃ m k : Int, x = .int .i64 m ∧ y = .int .i64 k ∧ m ≤ n ∧ 0 ≤ k ∧ Aside0 (k + bl m = bl n)) (fun x _ => (intOf x).toNat)
  case atStart => exact ⟨n, 0, rfl, rfl, by omega, by omega, ⟨by omega⟩⟩
  case round =>
    obtain ⟨m, k, rfl, rfl, hm, hk, HE⟩ := hrel
    have hk2 : k ≤ 63 := by have := HE.out; have := hbn.out; have := bl_range m (by omega); omega
    by_cases hp : 0 < m
    · have HH := Aside0.mk (bl_half hp)
      go_wp2
      go_round
      case rel => exact ⟨m / 2, k + 1, by go_num, by go_num, by omega, by omega, ⟨by have := HH.out; have := HE.out; omega⟩⟩
      case measure => simp [intOf]; omega
    · go_wp2
      go_ret
      refine ⟨?_, rfl⟩
      have h1 := HE.out
      rw [bl_zero (by omega)] at h1
      rw [← h1, Int.add_zero]
      rfl
theorem refSame {n m : Nat} {a b : List Int} (hn : a.length = n) (hm : b.length = m) (A B : Option Addr) (c d : Nat) (w : World) (ha : Kd.C (Kd.int .i64) w A n a) (hb : Kd.C (Kd.int .i64) w B m b) (hlen : n ≤ 9223372036854775807) (hlen2 : m ≤ 9223372036854775807) :
    Calls Try.prog 32 #[.slice A n c, .slice B m d] w fun e w' => e = .returned (.bool (decide (a = b))) ∧ Below w.heap.size w w' := by
  by_cases hne : n = m
  · subst hne
    have HA := Aside0.mk ha
    have HB := Aside0.mk hb
    have HN := Aside0.mk hn
    have HM := Aside0.mk hm
    clear ha hb hn hm hlen2
    go_enter Try.func32, Try.ntmps32
    go_wp2
    go_loopw [5] (fun x wr => ∃ i : Nat, x = .int .i64 i ∧ i ≤ n ∧ Aside0 (∀ k : Nat, k < i → rd a k = rd b k) ∧ Aside0 (Below w.heap.size w wr)) (fun x _ => n - (intOf x).toNat)
    case atStart => exact ⟨0, rfl, by omega, ⟨fun k hk => by omega⟩, ⟨Below.refl _ _⟩⟩
    case round =>
      obtain ⟨i, rfl, hi, HE, HL⟩ := hrel
      by_cases hlt : i < n
      · obtain ⟨ad, e1, hx⟩ := at_later HA.out HL.out i hlt
        obtain ⟨bd, e2, hy⟩ := at_later HB.out HL.out i hlt
        cases e1
        cases e2
        go_wp2
        go_quiet (fail)
        go_wp2
        · have hq : (rd a (i : Int) != rd b (i : Int)) = true := by assumption
          go_ret
          refine ⟨?_, pw_below_drewN HL.out _⟩
          have : ¬ a = b := fun h => by subst h; simp at hq
          simp [this]
        · have hq : (rd a (i : Int) != rd b (i : Int)) = false := by assumption
          have hq2 : rd a (i : Int) = rd b (i : Int) := by simpa using hq
          have HE2 : Aside0 (∀ k : Nat, k < i + 1 → rd a k = rd b k) := ⟨fun k hk => by
            by_cases c : k < i
            · exact HE.out k c
            · have : k = i := by omega
              subst this; exact hq2⟩
          clear hq2
          go_wp2
          go_roundw
          case rel => exact ⟨i + 1, by go_num, by omega, HE2, ⟨pw_below_drewN HL.out _⟩⟩
          case measure => simp [intOf]; omega
      · have : i = n := by omega
        subst this
        go_wp2
        go_ret
        refine ⟨?_, HL.out⟩
        have : a = b := list_rd_ext (by rw [HN.out, HM.out]) (fun k hk => HE.out k (by rw [HN.out] at hk; exact hk))
        simp [this]
  · have hq : ((n : Int) != (m : Int)) = true := by simp; omega
    have hab : ¬ a = b := fun h => hne (by rw [← hn, ← hm, h])
    have HAB := Aside0.mk hab
    clear ha hb hn hm hab hne
    go_enter Try.func32, Try.ntmps32
    go_wp2
    go_ret
    refine ⟨?_, Below.refl _ _⟩
    simp [HAB.out]
theorem refMay {n : Nat} {l : List Int} (hn : l.length = n) (A : Option Addr) (c : Nat) (wd : Int) (w : World) (hr : Kd.C (Kd.int .i64) w A n l) (hlen : n ≤ 9223372036854775807) (hwf : ∀ i : Nat, -9223372036854775808 ≤ rd l i ∧ rd l i ≤ 9223372036854775807) :
    Calls Try.prog 34 #[.slice A n c, .int .i64 wd] w fun e w' => e = .returned (.bool (decide (May l wd))) ∧ Below w.heap.size w w' := by
  have HN := Aside0.mk hn
  by_cases h1 : wd < 0
  · have hm : Aside0 (¬ May l wd) := ⟨fun h => by have := h.1; omega⟩
    clear hr hwf hn
    go_enter Try.func34, Try.ntmps34
    go_wp2
    go_ret
    exact ⟨by rw [decide_eq_false hm.out]; rfl, Below.refl _ _⟩
  · by_cases h2 : 20 < wd
    · have hm : Aside0 (¬ May l wd) := ⟨fun h => by have := h.2.1; omega⟩
      clear hr hwf hn
      go_enter Try.func34, Try.ntmps34
      go_wp2
      go_ret
      exact ⟨by rw [decide_eq_false hm.out]; rfl, Below.refl _ _⟩
    · by_cases h3 : 1000 < n
      · have hm : Aside0 (¬ May l wd) := ⟨fun h => by have := h.2.2.1; omega⟩
        clear hr hwf hn
        go_enter Try.func34, Try.ntmps34
        go_wp2
        go_ret
        exact ⟨by rw [decide_eq_false hm.out]; rfl, Below.refl _ _⟩
      · obtain ⟨v, rfl⟩ := Int.eq_ofNat_of_zero_le (by omega : 0 ≤ wd)
        have HR := Aside0.mk hr
        have HWF := Aside0.mk hwf
        have HBAD : Aside0 (∀ k : Nat, k < n → badAt l v k → ¬ May l v) := ⟨fun k hk h hm => bad_not (by omega) h hm.2.2.2⟩
        have HGOOD : Aside0 (AllOk l v → May l v) := ⟨fun h => ⟨by omega, by omega, by omega, h⟩⟩
        clear hr hwf hn
        go_enter Try.func34, Try.ntmps34
        go_wp2
        go_loopw [5] (fun x wr => ∃ k : Nat, x = .int .i64 k ∧ k ≤ n ∧ Aside0 (∀ i, i < k → 0 ≤ rd l (i : Int) ∧ rd l (i : Int) < 2 ^ v) ∧ Aside0 (Below w.heap.size w wr)) (fun x _ => n - (intOf x).toNat)
        case atStart => exact ⟨0, rfl, by omega, ⟨fun k hk => by omega⟩, ⟨Below.refl _ _⟩⟩
        case round =>
          obtain ⟨k, rfl, hk, HA, HL⟩ := hrel
          by_cases hlt : k < n
          · obtain ⟨hn1, hn2⟩ := HWF.out k
            obtain ⟨ad, e1, hx⟩ := at_later HR.out HL.out k hlt
            cases e1
            by_cases hneg : rd l k < 0
            · have HE := Aside0.mk (HBAD.out k hlt (.inl hneg))
              go_wp2
              go_ret
              exact ⟨by rw [decide_eq_false HE.out]; rfl, HL.out⟩
            · by_cases hbig : (v : Int) < bl (rd l k)
              · have HE := Aside0.mk (HBAD.out k hlt (.inr hbig))
                go_wp2_with (first | (go_at_call 33; refine (refWidth _ _ (by omega)).mono ?_; rintro e w' ⟨rfl, rfl⟩))
                go_ret
                exact ⟨by rw [decide_eq_false HE.out]; rfl, HL.out⟩
              · have HA2 := Aside0.mk (good_step HA.out (by omega) (by omega : bl (rd l k) ≤ v))
                go_wp2_with (first | (go_at_call 33; refine (refWidth _ _ (by omega)).mono ?_; rintro e w' ⟨rfl, rfl⟩))
                go_roundw
                case rel => exact ⟨k + 1, by go_num, by omega, HA2, HL⟩
                case measure => simp [intOf]; omega
          · have hkn : Aside0 (k = n) := ⟨by omega⟩
            go_wp2
            go_ret
            exact ⟨by rw [decide_eq_true (HGOOD.out (fun i hi => HA.out i (by have := hkn.out; have := HN.out; omega)))]; rfl, HL.out⟩
set_option maxHeartbeats 1000000 in
theorem refPack {n : Nat} {l : List Int} (hn : l.length = n) (A : Option Addr) (c : Nat) (wd : Int) (w : World) (hr : Kd.C (Kd.int .i64) w A n l) (hlen : n ≤ 9223372036854775807) (hwf : ∀ i : Nat, -9223372036854775808 ≤ rd l i ∧ rd l i ≤ 9223372036854775807) :
    Calls Try.prog 29 #[.slice A n c, .int .i64 wd] w fun e w' => ∃ v, e = .returned (.tuple #[v, .int .i64 (packR l wd).2]) ∧ Kd.R (Kd.int .u8) 5 w' w.heap.size (fun _ => True) v (packR l wd).1 ∧ Below w.heap.size w w' := by
  have C1 := Aside0.mk (fun w1 hb => refMay hn A c wd w1 (Kd.C_below hr hb) hlen hwf)
  by_cases hm : May l wd
  · have HP : Aside0 (packR l wd = (packed l wd.toNat, 0)) := ⟨by unfold packR; rw [if_pos hm]⟩
    have HD : Aside0 (decide (May l wd) = true) := ⟨by simp [hm]⟩
    obtain ⟨h1, h2, h3, h4⟩ := hm
    obtain ⟨v, rfl⟩ := Int.eq_ofNat_of_zero_le h1
    have hv : v ≤ 20 := by omega
    have hnk : n ≤ 1000 := by omega
    have hsz := mul_bound hnk hv
    have hszi : (n : Int) * v ≤ 20000 := by rw [← Int.natCast_mul]; omega
    have hszj : 0 ≤ (n : Int) * v := Int.mul_nonneg (by omega) (by omega)
    have HS : Aside0 ((List.replicate (((n : Int) * v + 7) / 8).toNat 0 : List Int) = zeroBs (n * v)) := ⟨by
      unfold zeroBs; congr 1⟩
    have HOK := Aside0.mk h4
    have HR := Aside0.mk hr
    have HN := Aside0.mk hn
    clear hr hwf hn h4 h1 h2 h3 hsz
    go_enter Try.func29, Try.ntmps29
    go_wp2_with (first | (go_at_call 34; (with_reducible refine (C1.out _ (Below.refl _ _)).mono ?_); rintro e w1 ⟨rfl, hb⟩; rw [HD.out]; have HB0 := Aside0.mk hb; clear hb) | (at_make; refine Kd.R_make (Kd.int .u8) w.heap.size 5 rfl (N := 20) rfl 22 _ _ rfl _ rfl rfl Try.underlying22 (.int .u8 0) 1 info_byte rfl (by decide) (by omega) 0 (ok := fun _ => True) (okp := fun _ => True) rfl (fun _ hk => hk) trivial ?c1 ?c2 HB0.out HB0.out.size ?_; (case c1 => omega); (case c2 => omega); intro v106 w8 ho9 hb hg_ hnew_; rw [HS.out] at ho9; have HO := Aside0.mk ho9; have HB := Aside0.mk hb; clear hg_ hnew_ ho9 hb))
    clear HB0
    go_loopw [7] (fun x wr => ∃ k : Nat, x = .int .i64 k ∧ k ≤ n ∧ Aside0 (Kd.R (Kd.int .u8) 5 wr w.heap.size (fun _ => True) v106 (outer l v (zeroBs (n * v)) k)) ∧ Aside0 (Below w.heap.size w wr)) (fun x _ => n - (intOf x).toNat)
    case atStart => exact ⟨0, rfl, by omega, HO, HB⟩
    case round =>
      clear HO HB
      obtain ⟨k, rfl, hk, HO, HB⟩ := hrel
      by_cases hlt : k < n
      · obtain ⟨hn1, hn2⟩ := HOK.out k (by have := HN.out; omega)
        have hx63 := HOK.out.lt63 hv k (by have := HN.out; omega)
        have hn3 : Aside0 (rd l (k : Int) < 2 ^ v) := ⟨hn2⟩
        clear hn2
        go_wp2
        go_loopw [8] (fun x wx => ∃ j : Nat, x = .int .i64 j ∧ j ≤ v ∧ Aside0 (Kd.R (Kd.int .u8) 5 wx w.heap.size (fun _ => True) v106 (inner v (rd l k) k (outer l v (zeroBs (n * v)) k) j)) ∧ Aside0 (Below w.heap.size w wx)) (fun x _ => v - (intOf x).toNat)
        case atStart => exact ⟨0, rfl, by omega, HO, HB⟩
        case round =>
          clear HO HB
          obtain ⟨j, rfl, hj, HO, HB⟩ := hrel
          by_cases hjlt : j < v
          · have hp := place_lt hlt hjlt
            have hpi : (k : Int) * v + j ≤ 20000 := by rw [← Int.natCast_mul]; have := mul_bound hnk hv; omega
            have hpj : 0 ≤ (k : Int) * v := Int.mul_nonneg (by omega) (by omega)
            have hlen := inner_length v (rd l k) k (outer l v (zeroBs (n * v)) k) j
            rw [outer_length, zeroBs_length] at hlen
            obtain ⟨b, hb⟩ : ∃ b, b = (inner v (rd l k) k (outer l v (zeroBs (n * v)) k) j) := ⟨_, rfl⟩
            rw [← hb] at hlen HO
            have HBe := Aside0.mk hb
            clear hb
            have hpk : (k * v + j) / 8 < b.length := by omega
            have hpk2 : ((k : Int) * v + j) / 8 < b.length := by rw [← Int.natCast_mul]; omega
            obtain ⟨g, cap, rfl, hg1, hg2, cells, hcells⟩ := Kd.R_form HO.out (by omega)
            obtain ⟨hxc, hfc⟩ := at_own HO.out _ hpk
            obtain ⟨ad, e1, hx⟩ := at_later HR.out HB.out k hlt
            cases e1
            clear hcells hlen hp
            go_wp2
            go_region
            go_wp2
            go_roundw
            case rel =>
              refine ⟨j + 1, by go_num, by omega, ⟨?_⟩, ⟨below_put HB.out hg1⟩⟩
              have := put_own HO.out ((k * v + j) / 8) (Go.bits .or .u8 (rd b (((k * v + j) / 8 : Nat) : Int)) (Go.bits .and .i64 (rd l k / 2 ^ j) 1 % 256 * 2 ^ ((k * v + j) % 8) % 256))
              rw [inner, ← HBe.out]
              exact Kd.R_drew this
            case measure => simp [intOf]; omega
          · have hj' : Aside0 (j = v) := ⟨by omega⟩
            go_wp2
            go_roundw
            case rel => exact ⟨k + 1, by go_num, by omega, by have := hj'.out; subst this; exact HO, HB⟩
            case measure => simp [intOf]; omega
      · have hkn : Aside0 (k = n) := ⟨by omega⟩
        go_wp2
        go_ret2
        have e1 := hkn.out
        have e2 := HN.out
        have e3 := HO.out
        rw [HP.out]
        refine ⟨_, rfl, ?_, HB.out⟩
        show Kd.R _ _ _ _ _ _ (packed l v)
        unfold packed
        rw [e2, ← e1]
        rw [← e1] at e3
        exact e3
  · have HP : Aside0 (packR l wd = ([], 1)) := ⟨by unfold packR; rw [if_neg hm]⟩
    have HD : Aside0 (decide (May l wd) = false) := ⟨by simp [hm]⟩
    clear hr hwf hn hm
    go_enter Try.func29, Try.ntmps29
    go_wp2_with (first | (go_at_call 34; (with_reducible refine (C1.out _ (Below.refl _ _)).mono ?_); rintro e w1 ⟨rfl, hb⟩; rw [HD.out]; have HB0 := Aside0.mk hb; clear hb))
    go_ret2
    rw [HP.out]
    exact ⟨_, rfl, Kd.R_nil _ _ _ _ _, HB0.out⟩
end Go.Proofs.Ytdijaobhijmknaa.Rb
