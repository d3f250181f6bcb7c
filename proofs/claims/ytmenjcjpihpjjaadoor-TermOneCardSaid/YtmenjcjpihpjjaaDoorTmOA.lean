/- The walks of the reader's run, small, and of its literal where a language or a type stands behind. -/
import Derived.Test.YtmenjcjpihpjjaaDoorTmHb
import Derived.Test.YtmenjcjpihpjjaaDoorTmOV
set_option linter.unusedSimpArgs false
set_option linter.unusedVariables false
namespace Go.Proofs.YtmenjcjpihpjjaaDoor.Tm
open Go Go.RowKit Go.Shelf Go.Proofs.YtmenjcjpihpjjaaDoorW.PrintWords

theorem ext_all (s : ByteArray) : s.extract 0 s.size = s := by
  apply ByteArray.ext
  rw [ByteArray.data_extract]
  exact Array.extract_size
theorem ext_none (s : ByteArray) : s.extract s.size s.size = ⟨#[]⟩ := by
  apply ByteArray.ext
  rw [ByteArray.data_extract]
  simp
set_option maxRecDepth 100000 in
set_option maxHeartbeats 4000000 in
/-- The reader's run, where all that is left belongs together. -/
theorem run_all (b : Nat) (s : ByteArray) (d : Bool) (w : World) (hR : Rd w b s) (hs2 : s.size ≤ 50000) (hl : ∀ i, i < s.size → alnumB (byteAt s i) = true ∨ (d = true ∧ byteAt s i = 45)) :
    Calls Tryd.prog 54 #[.pointer (some ⟨b, 0, none⟩), .bool d] w fun e w' => e = .returned (.string s) ∧ Rd w' b ⟨#[]⟩ ∧ Kp w.heap.size b w w' := by
  have hbl := blk_lt hR
  have HR := Aside0.mk hR
  obtain ⟨c0, c1, f0⟩ := hR.cells
  have HL := Aside0.mk hl
  have hs3 : (s.size : Int) ≤ 50000 := by omega
  obtain ⟨e1, he1⟩ : ∃ e1, s.extract 0 s.size = e1 := ⟨_, rfl⟩
  obtain ⟨e2, he2⟩ : ∃ e2, s.extract s.size s.size = e2 := ⟨_, rfl⟩
  have HE1 : Aside0 (e1 = s) := ⟨by rw [← he1]; exact ext_all s⟩
  have HE2 : Aside0 (e2 = ⟨#[]⟩) := ⟨by rw [← he2]; exact ext_none s⟩
  clear hR hl
  go_enter Tryd.func54, Tryd.ntmps54
  go_wp2_with fail
  go_loopw [5] (fun x wr => ∃ k : Nat, k ≤ s.size ∧ x = .int .i64 k ∧ Aside0 (wr = w)) (fun x _ => s.size - (intOf x).toNat)
  case atStart => exact ⟨0, by omega, by first | rfl | go_num, ⟨rfl⟩⟩
  case round =>
    obtain ⟨k, hk, rfl, hw⟩ := hrel
    obtain rfl := hw.out
    by_cases hlt : k < s.size
    · have hla := HL.out k hlt
      have hxb : s[k].toNat = byteAt s k := byte_get s k hlt
      obtain ⟨x, hx⟩ : ∃ x, byteAt s k = x := ⟨_, rfl⟩
      rw [hx] at hla hxb
      have gk2 : (k : Int) < (s.size : Int) := by omega
      have gk0 : (0 : Int) ≤ (k : Int) := by omega
      cases ha : alnumB x with
      | true =>
        have CA : Aside0 (∀ W, Calls Tryd.prog 60 #[.int .u8 (x : Int)] W fun e w' => e = .returned (.bool true) ∧ w' = W) := ⟨fun W => by
          have := alnum_any x W
          rwa [ha] at this⟩
        clear hla hx ha
        go_wp2_with (go_at_call 60; (with_reducible refine (CA.out _).mono ?_); rintro e w2 ⟨rfl, rfl⟩)
        go_roundw
        case rel => exact ⟨k + 1, by omega, by go_num, ⟨by first | trivial | rfl⟩⟩
        case measure => simp [intOf]; omega
      | false =>
        rw [ha] at hla
        rcases hla with h | ⟨rfl, rfl⟩
        · cases h
        · have CA : Aside0 (∀ W, Calls Tryd.prog 60 #[.int .u8 45] W fun e w' => e = .returned (.bool false) ∧ w' = W) := ⟨fun W => by
            have := alnum_any 45 W
            rwa [ha] at this⟩
          clear hx ha
          go_wp2_with (go_at_call 60; (with_reducible refine (CA.out _).mono ?_); rintro e w2 ⟨rfl, rfl⟩)
          go_roundw
          case rel => exact ⟨k + 1, by omega, by go_num, ⟨by first | trivial | rfl⟩⟩
          case measure => simp [intOf]; omega
    · obtain rfl : k = s.size := by omega
      clear hlt hk
      go_wp2_with fail
      go_ret
      exact ⟨ret_str HE1.out, by first | exact HR.out.set ⟨#[]⟩ | (rw [← HE2.out]; exact HR.out.set e2), (Kp.refl _ _ _).set _⟩
set_option maxRecDepth 100000 in
set_option maxHeartbeats 4000000 in
/-- The reader's small, where no great letter is. -/
theorem small_same (s : ByteArray) (w : World) (hs : s.size ≤ 50000) (hl : ∀ c ∈ lst s, ¬ (65 ≤ c.toNat ∧ c.toNat ≤ 90)) :
    Calls Tryd.prog 75 #[.string s] w fun e w' => e = .returned (.string s) ∧ Below w.heap.size w w' := by
  obtain ⟨F, g, hconv, hFB, hFC⟩ := conv_bytes s
  obtain ⟨L, hL⟩ : ∃ L, L = s.data.toList := ⟨_, rfl⟩
  obtain ⟨n, hn⟩ : ∃ n, n = s.size := ⟨_, rfl⟩
  have hLn : L.length = n := by rw [hL, hn]; exact size_list s
  obtain ⟨wz, hwz⟩ : ∃ wz, wz = F w := ⟨_, rfl⟩
  have hz1 := (hFB w).1
  rw [← hwz] at hz1
  have HB0 := Aside0.mk hz1
  have HC : Aside0 (∀ (i : Nat) (c : UInt8), L[i]? = some c → wz.cell? ⟨w.heap.size, i, none⟩ = some (.int .u8 (c.toNat : Int))) := ⟨fun i c h => by
    have := hFC w i c (by rw [← hL]; exact h)
    rwa [← hwz] at this⟩
  have HLN := Aside0.mk hLn
  have HL : Aside0 (∀ c ∈ L, ¬ (65 ≤ c.toNat ∧ c.toNat ≤ 90)) := ⟨by rw [hL]; exact hl⟩
  have hn1 : n ≤ 50000 := by omega
  have hback : (convert 22 9 (.slice (some ⟨w.heap.size, 0, none⟩) n (g w))).run Tryd.prog wz = .ok (.string s) wz := by
    have := run_convert_bytes_back (P := Tryd.prog) wz 22 9 5 ⟨w.heap.size, 0, none⟩ (g w) L Tryd.underlying22 Tryd.underlying5 Tryd.underlying9 (by
      intro j hj
      have := HC.out j L[j] (List.getElem?_eq_getElem hj)
      by_cases h0 : j = 0
      · subst h0; simpa [Addr.add] using this
      · simpa [Addr.add, h0] using this)
    rw [hLn] at this
    rw [this, ba_lst s, hL]; rfl
  rw [← hn] at hconv
  have HWZ := Aside0.mk hwz
  clear hFB hFC hL hn hLn hwz hz1 hs hl
  go_enter Tryd.func75, Tryd.ntmps75
  go_wp2_with fail
  rw [← HWZ.out]
  go_loopw [4] (fun x wr => ∃ k : Nat, k ≤ n ∧ x = .int .i64 k ∧ Aside0 (wr = wz)) (fun x _ => n - (intOf x).toNat)
  case atStart => exact ⟨0, by omega, by first | rfl | go_num, ⟨rfl⟩⟩
  case round =>
    obtain ⟨k, hk, rfl, hw⟩ := hrel
    obtain rfl := hw.out
    by_cases hlt : k < n
    · obtain ⟨c, hc⟩ : ∃ c, L[k]? = some c := ⟨L[k]'(by rw [HLN.out]; exact hlt), List.getElem?_eq_getElem _⟩
      have hcell := HC.out k c hc
      have hnb := HL.out c (List.mem_of_getElem? hc)
      have hk2 : (0 : Int) ≤ (k : Int) := by omega
      have hk3 : (k : Int) < (n : Int) := by omega
      obtain ⟨x, hx⟩ : ∃ x, x = c.toNat := ⟨_, rfl⟩
      rw [← hx] at hcell hnb
      clear hc hx
      by_cases h65 : 65 ≤ x
      · have g1 : (65 : Int) ≤ (x : Int) := by omega
        have g2 : (90 : Int) < (x : Int) := by omega
        clear hnb h65
        go_wp2_with fail
        go_roundw
        case rel => exact ⟨k + 1, by omega, by go_num, ⟨by first | trivial | rfl⟩⟩
        case measure => simp [intOf]; omega
      · have g1 : (x : Int) < 65 := by omega
        clear hnb h65
        go_wp2_with fail
        go_roundw
        case rel => exact ⟨k + 1, by omega, by go_num, ⟨by first | trivial | rfl⟩⟩
        case measure => simp [intOf]; omega
    · obtain rfl : k = n := by omega
      clear hlt hk
      go_wp2_with fail
      go_ret
      exact ⟨rfl, HB0.out⟩
end Go.Proofs.YtmenjcjpihpjjaaDoor.Tm
