/- The walk of the reader's escape: what a show wrote is read back. -/
import Derived.Test.YtmenjcjpihpjjaaDoorTmV
import Derived.Test.YtmenjcjpihpjjaaDoorTmQ
import Derived.Laws.Cover4
import Derived.BigQuiet
set_option linter.unusedSimpArgs false
set_option linter.unusedVariables false
namespace Go.Proofs.YtmenjcjpihpjjaaDoor.Tm
open Go Go.RowKit Go.Shelf Go.Proofs.YtmenjcjpihpjjaaDoorW.PrintWords

theorem at_of {s : ByteArray} {l : List UInt8} (h : s.data.toList = l) (i : Nat) (hi : i < s.size) (hl : i < l.length) : s[i] = l[i] := by
  subst h; rfl
def EscP (c n : Nat) (w : World) (e : Ending) (w' : World) : Prop := e = .returned (.tuple #[.string ⟨#[c.toUInt8]⟩, .int .i64 n]) ∧ Below w.heap.size w w'
set_option maxRecDepth 100000 in
set_option maxHeartbeats 4000000 in
theorem esc_34 (s : ByteArray) (m : List UInt8) (w : World) (h : s.data.toList = 34 :: m) (hs2 : s.size ≤ 100000) : Calls Tryd.prog 74 #[.string s, .bool true] w (EscP 34 1 w) := by
  have hsz : s.size = m.length + 1 := by rw [← size_list, h]; rfl
  have hp : 0 < s.size := by omega
  have e1 := string_ne hp
  have h0 : s[0].toNat = 34 := by rw [at_of h 0 hp (by simp)]; rfl
  have hs1 : (1 : Int) ≤ (s.size : Int) := by omega
  have HB := Aside0.mk (Below.refl w.heap.size w)
  clear h hsz
  go_enter Tryd.func74, Tryd.ntmps74
  go_wp2_with fail
  go_loopw [10] (fun x wr => ∃ k : Nat, k ≤ 0 ∧ x = .int .i64 k ∧ Aside0 (Below w.heap.size w wr)) (fun x _ => 0 - (intOf x).toNat)
  case atStart => exact ⟨0, by omega, rfl, HB⟩
  case round =>
    obtain ⟨wa, rfl⟩ : ∃ x, x = wr := ⟨wr, rfl⟩
    obtain ⟨k, hk, rfl, HB⟩ := hrel
    rcases (show k = 0 by omega) with rfl
    · go_wp2_with fail
      go_quiet (fail)
      go_wp2_with fail
      go_ret2
      exact ⟨by kernel_rfl, pw_below_drewN HB.out _⟩
set_option maxRecDepth 100000 in
set_option maxHeartbeats 4000000 in
theorem esc_92 (s : ByteArray) (m : List UInt8) (w : World) (h : s.data.toList = 92 :: m) (hs2 : s.size ≤ 100000) : Calls Tryd.prog 74 #[.string s, .bool true] w (EscP 92 1 w) := by
  have hsz : s.size = m.length + 1 := by rw [← size_list, h]; rfl
  have hp : 0 < s.size := by omega
  have e1 := string_ne hp
  have h0 : s[0].toNat = 92 := by rw [at_of h 0 hp (by simp)]; rfl
  have hs1 : (1 : Int) ≤ (s.size : Int) := by omega
  have HB := Aside0.mk (Below.refl w.heap.size w)
  clear h hsz
  go_enter Tryd.func74, Tryd.ntmps74
  go_wp2_with fail
  go_loopw [10] (fun x wr => ∃ k : Nat, k ≤ 1 ∧ x = .int .i64 k ∧ Aside0 (Below w.heap.size w wr)) (fun x _ => 1 - (intOf x).toNat)
  case atStart => exact ⟨0, by omega, rfl, HB⟩
  case round =>
    obtain ⟨wa, rfl⟩ : ∃ x, x = wr := ⟨wr, rfl⟩
    obtain ⟨k, hk, rfl, HB⟩ := hrel
    rcases (show k = 0 ∨ k = 1 by omega) with rfl | rfl
    · go_wp2_with fail
      go_quiet (fail)
      go_wp2_with fail
      go_roundw
      case rel => exact ⟨1, by omega, by go_num, ⟨pw_below_drewN HB.out _⟩⟩
      case measure => simp [intOf]
    · go_wp2_with fail
      go_quiet (fail)
      go_wp2_with fail
      go_ret2
      exact ⟨by kernel_rfl, pw_below_drewN HB.out _⟩
set_option maxRecDepth 100000 in
set_option maxHeartbeats 4000000 in
theorem esc_10 (s : ByteArray) (m : List UInt8) (w : World) (h : s.data.toList = 110 :: m) (hs2 : s.size ≤ 100000) : Calls Tryd.prog 74 #[.string s, .bool true] w (EscP 10 1 w) := by
  have hsz : s.size = m.length + 1 := by rw [← size_list, h]; rfl
  have hp : 0 < s.size := by omega
  have e1 := string_ne hp
  have h0 : s[0].toNat = 110 := by rw [at_of h 0 hp (by simp)]; rfl
  have hs1 : (1 : Int) ≤ (s.size : Int) := by omega
  have HB := Aside0.mk (Below.refl w.heap.size w)
  clear h hsz
  go_enter Tryd.func74, Tryd.ntmps74
  go_wp2_with fail
  go_loopw [10] (fun x wr => ∃ k : Nat, k ≤ 2 ∧ x = .int .i64 k ∧ Aside0 (Below w.heap.size w wr)) (fun x _ => 2 - (intOf x).toNat)
  case atStart => exact ⟨0, by omega, rfl, HB⟩
  case round =>
    obtain ⟨wa, rfl⟩ : ∃ x, x = wr := ⟨wr, rfl⟩
    obtain ⟨k, hk, rfl, HB⟩ := hrel
    rcases (show k = 0 ∨ k = 1 ∨ k = 2 by omega) with rfl | rfl | rfl
    · go_wp2_with fail
      go_quiet (fail)
      go_wp2_with fail
      go_roundw
      case rel => exact ⟨1, by omega, by go_num, ⟨pw_below_drewN HB.out _⟩⟩
      case measure => simp [intOf]
    · go_wp2_with fail
      go_quiet (fail)
      go_wp2_with fail
      go_roundw
      case rel => exact ⟨2, by omega, by go_num, ⟨pw_below_drewN HB.out _⟩⟩
      case measure => simp [intOf]
    · go_wp2_with fail
      go_quiet (fail)
      go_wp2_with fail
      go_ret2
      exact ⟨by kernel_rfl, pw_below_drewN HB.out _⟩
set_option maxRecDepth 100000 in
set_option maxHeartbeats 4000000 in
theorem esc_13 (s : ByteArray) (m : List UInt8) (w : World) (h : s.data.toList = 114 :: m) (hs2 : s.size ≤ 100000) : Calls Tryd.prog 74 #[.string s, .bool true] w (EscP 13 1 w) := by
  have hsz : s.size = m.length + 1 := by rw [← size_list, h]; rfl
  have hp : 0 < s.size := by omega
  have e1 := string_ne hp
  have h0 : s[0].toNat = 114 := by rw [at_of h 0 hp (by simp)]; rfl
  have hs1 : (1 : Int) ≤ (s.size : Int) := by omega
  have HB := Aside0.mk (Below.refl w.heap.size w)
  clear h hsz
  go_enter Tryd.func74, Tryd.ntmps74
  go_wp2_with fail
  go_loopw [10] (fun x wr => ∃ k : Nat, k ≤ 3 ∧ x = .int .i64 k ∧ Aside0 (Below w.heap.size w wr)) (fun x _ => 3 - (intOf x).toNat)
  case atStart => exact ⟨0, by omega, rfl, HB⟩
  case round =>
    obtain ⟨wa, rfl⟩ : ∃ x, x = wr := ⟨wr, rfl⟩
    obtain ⟨k, hk, rfl, HB⟩ := hrel
    rcases (show k = 0 ∨ k = 1 ∨ k = 2 ∨ k = 3 by omega) with rfl | rfl | rfl | rfl
    · go_wp2_with fail
      go_quiet (fail)
      go_wp2_with fail
      go_roundw
      case rel => exact ⟨1, by omega, by go_num, ⟨pw_below_drewN HB.out _⟩⟩
      case measure => simp [intOf]
    · go_wp2_with fail
      go_quiet (fail)
      go_wp2_with fail
      go_roundw
      case rel => exact ⟨2, by omega, by go_num, ⟨pw_below_drewN HB.out _⟩⟩
      case measure => simp [intOf]
    · go_wp2_with fail
      go_quiet (fail)
      go_wp2_with fail
      go_roundw
      case rel => exact ⟨3, by omega, by go_num, ⟨pw_below_drewN HB.out _⟩⟩
      case measure => simp [intOf]
    · go_wp2_with fail
      go_quiet (fail)
      go_wp2_with fail
      go_ret2
      exact ⟨by kernel_rfl, pw_below_drewN HB.out _⟩
set_option maxRecDepth 100000 in
set_option maxHeartbeats 4000000 in
theorem esc_9 (s : ByteArray) (m : List UInt8) (w : World) (h : s.data.toList = 116 :: m) (hs2 : s.size ≤ 100000) : Calls Tryd.prog 74 #[.string s, .bool true] w (EscP 9 1 w) := by
  have hsz : s.size = m.length + 1 := by rw [← size_list, h]; rfl
  have hp : 0 < s.size := by omega
  have e1 := string_ne hp
  have h0 : s[0].toNat = 116 := by rw [at_of h 0 hp (by simp)]; rfl
  have hs1 : (1 : Int) ≤ (s.size : Int) := by omega
  have HB := Aside0.mk (Below.refl w.heap.size w)
  clear h hsz
  go_enter Tryd.func74, Tryd.ntmps74
  go_wp2_with fail
  go_loopw [10] (fun x wr => ∃ k : Nat, k ≤ 4 ∧ x = .int .i64 k ∧ Aside0 (Below w.heap.size w wr)) (fun x _ => 4 - (intOf x).toNat)
  case atStart => exact ⟨0, by omega, rfl, HB⟩
  case round =>
    obtain ⟨wa, rfl⟩ : ∃ x, x = wr := ⟨wr, rfl⟩
    obtain ⟨k, hk, rfl, HB⟩ := hrel
    rcases (show k = 0 ∨ k = 1 ∨ k = 2 ∨ k = 3 ∨ k = 4 by omega) with rfl | rfl | rfl | rfl | rfl
    · go_wp2_with fail
      go_quiet (fail)
      go_wp2_with fail
      go_roundw
      case rel => exact ⟨1, by omega, by go_num, ⟨pw_below_drewN HB.out _⟩⟩
      case measure => simp [intOf]
    · go_wp2_with fail
      go_quiet (fail)
      go_wp2_with fail
      go_roundw
      case rel => exact ⟨2, by omega, by go_num, ⟨pw_below_drewN HB.out _⟩⟩
      case measure => simp [intOf]
    · go_wp2_with fail
      go_quiet (fail)
      go_wp2_with fail
      go_roundw
      case rel => exact ⟨3, by omega, by go_num, ⟨pw_below_drewN HB.out _⟩⟩
      case measure => simp [intOf]
    · go_wp2_with fail
      go_quiet (fail)
      go_wp2_with fail
      go_roundw
      case rel => exact ⟨4, by omega, by go_num, ⟨pw_below_drewN HB.out _⟩⟩
      case measure => simp [intOf]
    · go_wp2_with fail
      go_quiet (fail)
      go_wp2_with fail
      go_ret2
      exact ⟨by kernel_rfl, pw_below_drewN HB.out _⟩
set_option maxRecDepth 100000 in
set_option maxHeartbeats 4000000 in
theorem esc_8 (s : ByteArray) (m : List UInt8) (w : World) (h : s.data.toList = 98 :: m) (hs2 : s.size ≤ 100000) : Calls Tryd.prog 74 #[.string s, .bool true] w (EscP 8 1 w) := by
  have hsz : s.size = m.length + 1 := by rw [← size_list, h]; rfl
  have hp : 0 < s.size := by omega
  have e1 := string_ne hp
  have h0 : s[0].toNat = 98 := by rw [at_of h 0 hp (by simp)]; rfl
  have hs1 : (1 : Int) ≤ (s.size : Int) := by omega
  have HB := Aside0.mk (Below.refl w.heap.size w)
  clear h hsz
  go_enter Tryd.func74, Tryd.ntmps74
  go_wp2_with fail
  go_loopw [10] (fun x wr => ∃ k : Nat, k ≤ 5 ∧ x = .int .i64 k ∧ Aside0 (Below w.heap.size w wr)) (fun x _ => 5 - (intOf x).toNat)
  case atStart => exact ⟨0, by omega, rfl, HB⟩
  case round =>
    obtain ⟨wa, rfl⟩ : ∃ x, x = wr := ⟨wr, rfl⟩
    obtain ⟨k, hk, rfl, HB⟩ := hrel
    rcases (show k = 0 ∨ k = 1 ∨ k = 2 ∨ k = 3 ∨ k = 4 ∨ k = 5 by omega) with rfl | rfl | rfl | rfl | rfl | rfl
    · go_wp2_with fail
      go_quiet (fail)
      go_wp2_with fail
      go_roundw
      case rel => exact ⟨1, by omega, by go_num, ⟨pw_below_drewN HB.out _⟩⟩
      case measure => simp [intOf]
    · go_wp2_with fail
      go_quiet (fail)
      go_wp2_with fail
      go_roundw
      case rel => exact ⟨2, by omega, by go_num, ⟨pw_below_drewN HB.out _⟩⟩
      case measure => simp [intOf]
    · go_wp2_with fail
      go_quiet (fail)
      go_wp2_with fail
      go_roundw
      case rel => exact ⟨3, by omega, by go_num, ⟨pw_below_drewN HB.out _⟩⟩
      case measure => simp [intOf]
    · go_wp2_with fail
      go_quiet (fail)
      go_wp2_with fail
      go_roundw
      case rel => exact ⟨4, by omega, by go_num, ⟨pw_below_drewN HB.out _⟩⟩
      case measure => simp [intOf]
    · go_wp2_with fail
      go_quiet (fail)
      go_wp2_with fail
      go_roundw
      case rel => exact ⟨5, by omega, by go_num, ⟨pw_below_drewN HB.out _⟩⟩
      case measure => simp [intOf]
    · go_wp2_with fail
      go_quiet (fail)
      go_wp2_with fail
      go_ret2
      exact ⟨by kernel_rfl, pw_below_drewN HB.out _⟩
set_option maxRecDepth 100000 in
set_option maxHeartbeats 4000000 in
theorem esc_12 (s : ByteArray) (m : List UInt8) (w : World) (h : s.data.toList = 102 :: m) (hs2 : s.size ≤ 100000) : Calls Tryd.prog 74 #[.string s, .bool true] w (EscP 12 1 w) := by
  have hsz : s.size = m.length + 1 := by rw [← size_list, h]; rfl
  have hp : 0 < s.size := by omega
  have e1 := string_ne hp
  have h0 : s[0].toNat = 102 := by rw [at_of h 0 hp (by simp)]; rfl
  have hs1 : (1 : Int) ≤ (s.size : Int) := by omega
  have HB := Aside0.mk (Below.refl w.heap.size w)
  clear h hsz
  go_enter Tryd.func74, Tryd.ntmps74
  go_wp2_with fail
  go_loopw [10] (fun x wr => ∃ k : Nat, k ≤ 6 ∧ x = .int .i64 k ∧ Aside0 (Below w.heap.size w wr)) (fun x _ => 6 - (intOf x).toNat)
  case atStart => exact ⟨0, by omega, rfl, HB⟩
  case round =>
    obtain ⟨wa, rfl⟩ : ∃ x, x = wr := ⟨wr, rfl⟩
    obtain ⟨k, hk, rfl, HB⟩ := hrel
    rcases (show k = 0 ∨ k = 1 ∨ k = 2 ∨ k = 3 ∨ k = 4 ∨ k = 5 ∨ k = 6 by omega) with rfl | rfl | rfl | rfl | rfl | rfl | rfl
    · go_wp2_with fail
      go_quiet (fail)
      go_wp2_with fail
      go_roundw
      case rel => exact ⟨1, by omega, by go_num, ⟨pw_below_drewN HB.out _⟩⟩
      case measure => simp [intOf]
    · go_wp2_with fail
      go_quiet (fail)
      go_wp2_with fail
      go_roundw
      case rel => exact ⟨2, by omega, by go_num, ⟨pw_below_drewN HB.out _⟩⟩
      case measure => simp [intOf]
    · go_wp2_with fail
      go_quiet (fail)
      go_wp2_with fail
      go_roundw
      case rel => exact ⟨3, by omega, by go_num, ⟨pw_below_drewN HB.out _⟩⟩
      case measure => simp [intOf]
    · go_wp2_with fail
      go_quiet (fail)
      go_wp2_with fail
      go_roundw
      case rel => exact ⟨4, by omega, by go_num, ⟨pw_below_drewN HB.out _⟩⟩
      case measure => simp [intOf]
    · go_wp2_with fail
      go_quiet (fail)
      go_wp2_with fail
      go_roundw
      case rel => exact ⟨5, by omega, by go_num, ⟨pw_below_drewN HB.out _⟩⟩
      case measure => simp [intOf]
    · go_wp2_with fail
      go_quiet (fail)
      go_wp2_with fail
      go_roundw
      case rel => exact ⟨6, by omega, by go_num, ⟨pw_below_drewN HB.out _⟩⟩
      case measure => simp [intOf]
    · go_wp2_with fail
      go_quiet (fail)
      go_wp2_with fail
      go_ret2
      exact ⟨by kernel_rfl, pw_below_drewN HB.out _⟩
theorem enc_low (c : Nat) (h : c < 128) : runesBytes [(c : Int)] = ⟨#[c.toUInt8]⟩ := by
  unfold runesBytes
  simp only [List.foldl_cons, List.foldl_nil]
  have hv : Utf8.valid (c : Int) = true := by
    unfold Utf8.valid
    simp only [Bool.or_eq_true, Bool.and_eq_true, decide_eq_true_eq]
    omega
  unfold Utf8.encode
  simp only [hv, if_true, Int.toNat_natCast]
  rw [if_pos h]
  exact ba_app [] [UInt8.ofNat c]
set_option maxRecDepth 100000 in
set_option maxHeartbeats 4000000 in
theorem esc_hex (s : ByteArray) (p q : UInt8) (m : List UInt8) (w : World) (h : s.data.toList = 117 :: 48 :: 48 :: p :: q :: m) (hs2 : s.size ≤ 100000) (hp : 48 ≤ p.toNat) (hp2 : p.toNat ≤ 55) (hq : (48 ≤ q.toNat ∧ q.toNat ≤ 57) ∨ (65 ≤ q.toNat ∧ q.toNat ≤ 70)) :
    Calls Tryd.prog 74 #[.string s, .bool true] w (EscP ((p.toNat - 48) * 16 + hexV q.toNat) 5 w) := by
  have hsz : s.size = m.length + 5 := by rw [← size_list, h]; rfl
  have hps : 0 < s.size := by omega
  have e1 := string_ne hps
  have h0 : s[0].toNat = 117 := by rw [at_of h 0 hps (by simp)]; rfl
  have hs1 : (1 : Int) ≤ (s.size : Int) := by omega
  obtain ⟨s1, hs1e⟩ : ∃ s1, s.extract 1 s.size = s1 := ⟨_, rfl⟩
  have hl1 : s1.data.toList = 48 :: 48 :: p :: q :: m := by
    rw [← hs1e, ByteArray.data_extract, Array.toList_extract, h]
    simp only [List.extract_eq_take_drop, List.drop_succ_cons, List.drop_zero]
    rw [List.take_of_length_le (by simp; omega)]
  have hz1 : s1.size = m.length + 4 := by rw [← size_list, hl1]; rfl
  have CH := Aside0.mk (fun W => hex_any s1 p.toNat q.toNat W (by omega) (by omega) (by rw [at_of hl1 0 (by omega) (by simp)]; rfl) (by rw [at_of hl1 1 (by omega) (by simp)]; rfl) (by rw [at_of hl1 2 (by omega) (by simp)]; rfl) (by rw [at_of hl1 3 (by omega) (by simp)]; rfl) hp (by omega) hq)
  obtain ⟨c, hc⟩ : ∃ c, c = (p.toNat - 48) * 16 + hexV q.toNat := ⟨_, rfl⟩
  have hc8 : c < 128 := by
    have : hexV q.toNat ≤ 15 := by unfold hexV; split <;> omega
    omega
  rw [← hc] at CH
  rw [← hc]
  have gc : (0 : Int) ≤ (c : Int) := by omega
  obtain ⟨wb, hwb, HB0⟩ : ∃ wb, wb = w.alloc (.cells #[.int .i32 (c : Int)] 21) ∧ Aside0 (Below w.heap.size w wb) := ⟨_, rfl, ⟨below_alloc (Below.refl _ _) _⟩⟩
  have hcv : (convert 32 9 (.slice (some ⟨w.heap.size, 0, none⟩) 1 1)).run Tryd.prog wb = .ok (.string ⟨#[c.toUInt8]⟩) wb := by
    have := run_convert_runes (P := Tryd.prog) wb 32 9 21 ⟨w.heap.size, 0, none⟩ 1 1 [(c : Int)] (by simp) Tryd.underlying32 Tryd.underlying21 Tryd.underlying9 (by
      intro j hj
      match j, hj with
      | 0, _ => rw [hwb]; simp [Addr.add]
      | j + 1, hj => simp at hj)
    rw [this]
    show Result.ok (Value.string (runesBytes [(c : Int)])) wb = _
    rw [enc_low c hc8]
  rw [hwb] at hcv HB0
  clear hwb h hsz hl1 hz1 hp hp2 hq hc hc8
  go_enter Tryd.func74, Tryd.ntmps74
  go_wp2_with (go_at_call 89; (try rw [hs1e]); (with_reducible refine (CH.out _).mono ?_); rintro e w1 ⟨rfl, rfl⟩)
  go_ret2
  exact ⟨rfl, HB0.out⟩
end Go.Proofs.YtmenjcjpihpjjaaDoor.Tm
