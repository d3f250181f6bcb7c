/- The walks of package pack: Width, fits, size, Pack, Unpack. -/
import Derived.Test.YtdijaobhijmknaaBase
import Derived.Test.YtdijaobhijmknaaPackM
import Derived.Test.YtdijaobhijmknaaShelf
set_option linter.unusedSimpArgs false
set_option linter.unusedVariables false
namespace Go.Proofs.Ytdijaobhijmknaa.Pk
open Go.RowKit Go.Proofs.YtdijaobhijmknaaW.PrintWords Go.Proofs.YtdijaobhijmknaaW.PrintLast Go.Proofs.YtdijaobhijmknaaW.PrintMore Go.Proofs.Ytdijaobhijmknaa.Bs Go.Proofs.Ytdijaobhijmknaa.PM
attribute [local go_sem] max2_int min2_int max_two min_two

theorem bitLen_aux (f x : Nat) (hx : x < 2 ^ f) : (Lib.bitLenAux f x : Int) = bl x := by
  induction f generalizing x with
  | zero =>
    have : x = 0 := by omega
    subst this; rfl
  | succ f ih =>
    rw [Lib.bitLenAux]
    by_cases c : x = 0
    · subst c; rfl
    · rw [if_neg c]
      have := ih (x / 2) (by rw [Nat.pow_succ] at hx; omega)
      have hc : ¬ (x : Int) ≤ 0 := by omega
      unfold bl at this ⊢
      rw [if_neg hc]
      simp only [Int.toNat_natCast] at this ⊢
      rw [Nat.log2_def]
      by_cases c2 : 2 ≤ x
      · rw [if_neg (by omega)] at this
        rw [if_pos c2]
        omega
      · rw [if_pos (by omega)] at this
        rw [if_neg c2]
        omega
theorem bitLen_bl (n : Int) (h : 0 ≤ n) (h1 : n ≤ 9223372036854775807) : (Lib.bitLen n.toNat : Int) = bl n := by
  obtain ⟨x, rfl⟩ := Int.eq_ofNat_of_zero_le h
  simp only [Int.toNat_natCast]
  exact bitLen_aux 64 x (by omega)
theorem bl_neg (n : Int) (h : n < 0) : bl n = 0 := by unfold bl; rw [if_pos (by omega)]
theorem width_any (n : Int) (w : World) (h0 : -9223372036854775808 ≤ n) (h1 : n ≤ 9223372036854775807) :
    Calls Try.prog 27 #[.int .i64 n] w fun e w' => e = .returned (.int .i64 (bl n)) ∧ w = w' := by
  by_cases h : n < 0
  · have hb := Aside0.mk (bl_neg n h)
    go_enter Try.func27, Try.ntmps27
    go_wp2_with (first | (go_at_call 62; refine (Try.bits_Len _ _ (by omega) (by omega)).mono ?_; rintro e w' ⟨rfl, rfl⟩))
    go_ret
    exact ⟨by rw [hb.out]; rfl, rfl⟩
  · have hb := Aside0.mk (bitLen_bl n (by omega) h1)
    go_enter Try.func27, Try.ntmps27
    go_wp2_with (first | (go_at_call 62; refine (Try.bits_Len _ _ (by omega) (by omega)).mono ?_; rintro e w' ⟨rfl, rfl⟩))
    go_ret
    exact ⟨by rw [← hb.out]; rfl, rfl⟩
theorem fits_yes (n wd : Int) (w : World) (h1 : 0 ≤ n) (h2 : n ≤ 1000) (h3 : 0 ≤ wd) (h4 : wd ≤ 20) :
    Calls Try.prog 60 #[.int .i64 n, .int .i64 wd] w fun e w' => e = .returned (.bool true) ∧ w = w' := by
  go_enter Try.func60, Try.ntmps60
  go_wp2
  go_ret
  exact ⟨rfl, rfl⟩
theorem fits_no (n wd : Int) (w : World) (h : ¬ (0 ≤ wd ∧ wd ≤ 20 ∧ 0 ≤ n ∧ n ≤ 1000)) :
    Calls Try.prog 60 #[.int .i64 n, .int .i64 wd] w fun e w' => e = .returned (.bool false) ∧ w = w' := by
  by_cases h1 : 0 ≤ wd
  · by_cases h2 : wd ≤ 20
    · by_cases h3 : 0 ≤ n
      · have h4 : ¬ n ≤ 1000 := fun h4 => h ⟨h1, h2, h3, h4⟩
        clear h
        go_enter Try.func60, Try.ntmps60
        go_wp2
        go_ret
        exact ⟨rfl, rfl⟩
      · clear h
        go_enter Try.func60, Try.ntmps60
        go_wp2
        go_ret
        exact ⟨rfl, rfl⟩
    · clear h
      go_enter Try.func60, Try.ntmps60
      go_wp2
      go_ret
      exact ⟨rfl, rfl⟩
  · clear h
    go_enter Try.func60, Try.ntmps60
    go_wp2
    go_ret
    exact ⟨rfl, rfl⟩
theorem size_any (n : Int) (w : World) (h1 : 0 ≤ n) (h2 : n ≤ 1000000) :
    Calls Try.prog 61 #[.int .i64 n] w fun e w' => e = .returned (.int .i64 ((n + 8 - 1) / 8)) ∧ w = w' := by
  go_enter Try.func61, Try.ntmps61
  go_wp2
  go_ret
  exact ⟨rfl, rfl⟩

theorem mul_bound {n wd : Nat} (hl : n ≤ 1000) (hw : wd ≤ 20) : n * wd ≤ 20000 := by
  calc n * wd ≤ 1000 * 20 := Nat.mul_le_mul hl hw
    _ = 20000 := rfl
theorem place_lt {k n wd j : Nat} (hlt : k < n) (hj : j < wd) : k * wd + j < n * wd := by
  have : (k + 1) * wd ≤ n * wd := Nat.mul_le_mul_right _ hlt
  rw [Nat.add_mul] at this; omega
/-- One more bit. -/
theorem start_of (n wd : Nat) : (List.replicate (((n : Int) * wd + 8 - 1) / 8).toNat 0 : List Int) = zeroBs (n * wd) := by
  unfold zeroBs
  congr 1
  rw [← Int.natCast_mul]; omega
/-- A number is too wide, or below nought. -/
def badAt (l : List Int) (wd : Int) (k : Nat) : Prop := rd l k < 0 ∨ wd < bl (rd l k)
theorem bad_not {l : List Int} {wd k : Nat} (hk : k < l.length) (h : badAt l wd k) : ¬ AllOk l wd := fun ha => by
  obtain ⟨h0, h1⟩ := ha k hk
  rcases h with h | h
  · omega
  · have := (bl_le h0 wd).2 h1; omega
theorem good_step {l : List Int} {wd k : Nat} (ha : ∀ i, i < k → 0 ≤ rd l (i : Int) ∧ rd l (i : Int) < 2 ^ wd) (h0 : 0 ≤ rd l (k : Int)) (h1 : bl (rd l (k : Int)) ≤ wd) : ∀ i, i < k + 1 → 0 ≤ rd l (i : Int) ∧ rd l (i : Int) < 2 ^ wd := by
  intro i hi
  by_cases c : i < k
  · exact ha i c
  · have : i = k := by omega
    subst this
    exact ⟨h0, (bl_le h0 wd).1 h1⟩
set_option maxHeartbeats 1000000 in
theorem pack_in (A : Option Addr) (c : Nat) (l : List Int) (wd : Nat) (w : World) (hr : Kd.C (Kd.int .i64) w A l.length l) (hc : l.length ≤ c) (hl : l.length ≤ 1000) (hw : wd ≤ 20) (hwf : ∀ i : Nat, -9223372036854775808 ≤ rd l i ∧ rd l i ≤ 9223372036854775807) :
    Calls Try.prog 26 #[.slice A l.length c, .int .i64 wd] w fun e w' => ∃ v, e = .returned (.tuple #[v, .int .i64 (packR l wd).2]) ∧ Kd.R (Kd.int .u8) 5 w' w.heap.size (fun _ => True) v (packR l wd).1 ∧ Below w.heap.size w w' := by
  have HR := Aside0.mk hr
  have HWF := Aside0.mk hwf
  have hsz := mul_bound hl hw
  have hszi : (l.length : Int) * wd ≤ 20000 := by rw [← Int.natCast_mul]; omega
  have hszj : 0 ≤ (l.length : Int) * wd := Int.mul_nonneg (by omega) (by omega)
  have HS := Aside0.mk (start_of l.length wd)
  have HBAD : ∀ k : Nat, k < l.length → badAt l wd k → Aside0 (packR l wd = ([], 1)) := fun k hk h => ⟨by
    unfold packR
    rw [if_neg (fun hm => bad_not hk h hm.2.2.2)]⟩
  have HGOOD : AllOk l wd → Aside0 (packR l wd = (packed l wd, 0)) := fun h => ⟨by
    unfold packR
    rw [if_pos ⟨by omega, by omega, hl, h⟩]; rfl⟩
  have HB1 := Aside0.mk HBAD
  have HG1 := Aside0.mk HGOOD
  clear hr hwf HBAD HGOOD
  go_enter Try.func26, Try.ntmps26
  go_wp2_with (first | (go_at_call 60; refine (fits_yes _ _ _ (by omega) (by omega) (by omega) (by omega)).mono ?_; rintro e w' ⟨rfl, rfl⟩) | (go_at_call 61; refine (size_any _ _ (by omega) (by omega)).mono ?_; rintro e w' ⟨rfl, rfl⟩) | (at_make; refine Kd.R_make (Kd.int .u8) _ 5 rfl (N := 21) rfl 22 _ _ rfl _ rfl rfl Try.underlying22 (.int .u8 0) 1 info_byte rfl (by decide) (by omega) 0 (ok := fun _ => True) (okp := fun _ => True) rfl (fun _ hk => hk) trivial ?c1 ?c2 (Below.refl _ _) (Nat.le_refl _) ?_; (case c1 => omega); (case c2 => omega); intro v106 w8 ho9 hb hg_ hnew_; rw [HS.out] at ho9; have HO := Aside0.mk ho9; have HB := Aside0.mk hb; clear hg_ hnew_ ho9 hb))
  go_loopw [24] (fun i wr => ∃ k : Nat, i = .int .i64 k ∧ k ≤ l.length ∧ Aside0 (∀ i, i < k → 0 ≤ rd l (i : Int) ∧ rd l (i : Int) < 2 ^ wd) ∧ Aside0 (Kd.R (Kd.int .u8) 5 wr w.heap.size (fun _ => True) v106 (outer l wd (zeroBs (l.length * wd)) k)) ∧ Aside0 (Below w.heap.size w wr)) (fun i _ => l.length - (intOf i).toNat)
  case atStart => exact ⟨0, rfl, by omega, ⟨fun i hi => by omega⟩, HO, HB⟩
  case round =>
    clear HO HB
    obtain ⟨k, rfl, hk, HA, HO, HB⟩ := hrel
    by_cases hlt : k < l.length
    · obtain ⟨hn1, hn2⟩ := HWF.out k
      obtain ⟨ad, e1, hx⟩ := at_later HR.out HB.out k hlt
      cases e1
      by_cases hneg : rd l k < 0
      · have HE := HB1.out k hlt (.inl hneg)
        go_wp2
        go_ret2
        rw [HE.out]
        exact ⟨_, rfl, Kd.R_nil _ _ _ _ _, HB.out⟩
      · by_cases hbig : (wd : Int) < bl (rd l k)
        · have HE := HB1.out k hlt (.inr hbig)
          go_wp2_with (first | (go_at_call 27; refine (width_any _ _ (by omega) (by omega)).mono ?_; rintro e w' ⟨rfl, rfl⟩))
          go_ret2
          rw [HE.out]
          exact ⟨_, rfl, Kd.R_nil _ _ _ _ _, HB.out⟩
        · have HA2 := Aside0.mk (good_step HA.out (by omega) (by omega : bl (rd l k) ≤ wd))
          have hx63 : Aside0 (rd l k < 2 ^ 63) := ⟨by omega⟩
          clear HA
          go_wp2_with (first | (go_at_call 27; refine (width_any _ _ (by omega) (by omega)).mono ?_; rintro e w' ⟨rfl, rfl⟩))
          go_loopw [38] (fun i wx => ∃ j : Nat, i = .int .i64 j ∧ j ≤ wd ∧ Aside0 (Kd.R (Kd.int .u8) 5 wx w.heap.size (fun _ => True) v106 (inner wd (rd l k) k (outer l wd (zeroBs (l.length * wd)) k) j)) ∧ Aside0 (Below w.heap.size w wx)) (fun i _ => wd - (intOf i).toNat)
          case atStart => exact ⟨0, rfl, by omega, HO, HB⟩
          case round =>
            clear HO HB hx
            obtain ⟨j, rfl, hj, HO, HB⟩ := hrel
            by_cases hjlt : j < wd
            · have hp := place_lt hlt hjlt
              have hpi : (k : Int) * wd + j ≤ 20000 := by rw [← Int.natCast_mul]; omega
              have hpj : 0 ≤ (k : Int) * wd := Int.mul_nonneg (by omega) (by omega)
              have hlen := inner_length wd (rd l k) k (outer l wd (zeroBs (l.length * wd)) k) j
              rw [outer_length, zeroBs_length] at hlen
              obtain ⟨b, hb⟩ : ∃ b, b = (inner wd (rd l k) k (outer l wd (zeroBs (l.length * wd)) k) j) := ⟨_, rfl⟩
              rw [← hb] at hlen HO
              have HBe := Aside0.mk hb
              clear hb
              have hpk : (k * wd + j) / 8 < b.length := by omega
              have hpk2 : ((k : Int) * wd + j) / 8 < b.length := by rw [← Int.natCast_mul]; omega
              obtain ⟨g, cap, rfl, hg1, hg2, cells, hcells⟩ := Kd.R_form HO.out (by omega)
              obtain ⟨hxc, hfc⟩ := at_own HO.out _ hpk
              clear hcells hlen hp
              go_wp2
              go_region
              go_wp2
              go_roundw
              case rel =>
                refine ⟨j + 1, by go_num, by omega, ⟨?_⟩, ⟨below_put HB.out hg1⟩⟩
                have := put_own HO.out ((k * wd + j) / 8) (Go.bits .or .u8 (rd b (((k * wd + j) / 8 : Nat) : Int)) (Go.bits .and .i64 (rd l k / 2 ^ j) 1 % 256 * 2 ^ ((k * wd + j) % 8) % 256))
                rw [inner, ← HBe.out]
                exact Kd.R_drew this
              case measure => simp [intOf]; omega
            · have hj' : j = wd := by omega
              go_wp2
              go_roundw
              case rel => exact ⟨k + 1, by go_num, by omega, HA2, by subst hj'; exact HO, HB⟩
              case measure => simp [intOf]; omega
    · have : k = l.length := by omega
      subst this
      have HE := HG1.out HA.out
      go_wp2
      go_ret2
      rw [HE.out]
      exact ⟨_, rfl, HO.out, HB.out⟩
theorem pack_out (A : Option Addr) (c : Nat) (l : List Int) (wd : Int) (w : World) (h : ¬ (0 ≤ wd ∧ wd ≤ 20 ∧ 0 ≤ (l.length : Int) ∧ (l.length : Int) ≤ 1000)) (hlen : l.length ≤ 9223372036854775807):
    Calls Try.prog 26 #[.slice A l.length c, .int .i64 wd] w fun e w' => e = .returned (.tuple #[.slice none 0 0, .int .i64 1]) ∧ w = w' := by
  have HN := Aside0.mk h
  clear h
  go_enter Try.func26, Try.ntmps26
  go_wp2_with (first | (go_at_call 60; refine (fits_no _ _ _ HN.out).mono ?_; rintro e w' ⟨rfl, rfl⟩))
  go_ret2
  exact ⟨rfl, rfl⟩
/-- Pack, called with whatever. -/
theorem pack_any (A : Option Addr) (c : Nat) (l : List Int) (wd : Int) (w : World) (hr : Kd.C (Kd.int .i64) w A l.length l) (hc : l.length ≤ c) (hlen : l.length ≤ 9223372036854775807) (hwf : ∀ i : Nat, -9223372036854775808 ≤ rd l i ∧ rd l i ≤ 9223372036854775807) :
    Calls Try.prog 26 #[.slice A l.length c, .int .i64 wd] w fun e w' => ∃ v, e = .returned (.tuple #[v, .int .i64 (packR l wd).2]) ∧ Kd.R (Kd.int .u8) 5 w' w.heap.size (fun _ => True) v (packR l wd).1 ∧ Below w.heap.size w w' := by
  by_cases h : 0 ≤ wd ∧ wd ≤ 20 ∧ 0 ≤ (l.length : Int) ∧ (l.length : Int) ≤ 1000
  · obtain ⟨n, rfl⟩ := Int.eq_ofNat_of_zero_le h.1
    exact pack_in A c l n w hr hc (by omega) (by omega) hwf
  · refine (pack_out A c l wd w h hlen).mono ?_
    rintro e w' ⟨rfl, rfl⟩
    have : packR l wd = ([], 1) := by
      unfold packR
      rw [if_neg (fun hm => h ⟨hm.1, hm.2.1, by omega, by have := hm.2.2.1; omega⟩)]
    rw [this]
    exact ⟨_, rfl, Kd.R_nil _ _ _ _ _, Below.refl _ _⟩

theorem pack_n {n : Nat} {l : List Int} (hn : l.length = n) (A : Option Addr) (c : Nat) (wd : Int) (w : World) (hr : Kd.C (Kd.int .i64) w A n l) (hc : n ≤ c) (hlen : n ≤ 9223372036854775807) (hwf : ∀ i : Nat, -9223372036854775808 ≤ rd l i ∧ rd l i ≤ 9223372036854775807) :
    Calls Try.prog 26 #[.slice A n c, .int .i64 wd] w fun e w' => ∃ v, e = .returned (.tuple #[v, .int .i64 (packR l wd).2]) ∧ Kd.R (Kd.int .u8) 5 w' w.heap.size (fun _ => True) v (packR l wd).1 ∧ Below w.heap.size w w' := by
  subst hn
  exact pack_any A c l wd w hr hc hlen hwf
/-- bytes.Equal of two rows of bytes. -/
theorem same_bytes (A A' : Option Addr) (n c m c' : Nat) (a b : List Int) (w : World) (ha : Kd.C (Kd.int .u8) w A n a) (hb : Kd.C (Kd.int .u8) w A' m b) (h1 : Bytes a) (h2 : Bytes b) :
    Calls Try.prog 63 #[.slice A n c, .slice A' m c'] w fun e w' => e = .returned (.bool (decide (a = b))) ∧ w = w' := by
  refine (Try.bytes_Equal _ _ a b w (Kd.C_string Try.underlying22 Try.underlying5 Try.underlying9 ha) (Kd.C_string Try.underlying22 Try.underlying5 Try.underlying9 hb)).mono ?_
  rintro e w' ⟨rfl, rfl⟩
  rw [bytes_inj h1 h2]
  exact ⟨rfl, rfl⟩
theorem packed_may {l : List Int} {wd : Nat} (hw : wd ≤ 20) (hl : l.length ≤ 1000) (h : AllOk l wd) : packR l wd = (packed l wd, 0) := by
  unfold packR
  rw [if_pos ⟨by omega, by omega, hl, h⟩]; rfl
end Go.Proofs.Ytdijaobhijmknaa.Pk
