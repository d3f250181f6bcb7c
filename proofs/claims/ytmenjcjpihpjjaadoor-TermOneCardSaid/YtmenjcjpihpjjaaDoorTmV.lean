/- The walk of the reader's hex at four digits, of which the first two are 0. -/
import Derived.Test.YtmenjcjpihpjjaaDoorTmS
set_option linter.unusedSimpArgs false
set_option linter.unusedVariables false
namespace Go.Proofs.YtmenjcjpihpjjaaDoor.Tm
open Go Go.RowKit Go.Shelf Go.Proofs.YtmenjcjpihpjjaaDoorW.PrintWords

def hexV (q : Nat) : Nat := if q ≤ 57 then q - 48 else q - 55
set_option maxRecDepth 100000 in
set_option maxHeartbeats 4000000 in
theorem hex_any (s : ByteArray) (p q : Nat) (w : World) (hs : 4 ≤ s.size) (hs2 : s.size ≤ 100000) (h0 : s[0].toNat = 48) (h1 : s[1].toNat = 48) (h2 : s[2].toNat = p) (h3 : s[3].toNat = q) (hp : 48 ≤ p) (hp2 : p ≤ 57) (hq : (48 ≤ q ∧ q ≤ 57) ∨ (65 ≤ q ∧ q ≤ 70)) :
    Calls Tryd.prog 89 #[.string s, .int .i64 4] w fun e w' => e = .returned (.int .i32 (((p - 48) * 16 + hexV q : Nat) : Int)) ∧ w' = w := by
  have g0 : (4 : Int) ≤ (s.size : Int) := by omega
  have g1 : (48 : Int) ≤ (p : Int) := by omega
  have g2 : (p : Int) ≤ 57 := by omega
  have HQ : Aside0 (hexV q ≤ 15) := ⟨by unfold hexV; split <;> omega⟩
  go_enter Tryd.func89, Tryd.ntmps89
  go_wp2_with fail
  go_loop [5, 6] (fun x y => ∃ k : Nat, k ≤ 4 ∧ y = .int .i64 k ∧ x = .int .i64 ((if k ≤ 2 then 0 else if k = 3 then p - 48 else (p - 48) * 16 + hexV q : Nat) : Int)) (fun _ y => 4 - (intOf y).toNat)
  case atStart => exact ⟨0, by omega, rfl, rfl⟩
  case round =>
    obtain ⟨k, hk, rfl, rfl⟩ := hrel
    rcases (show k = 0 ∨ k = 1 ∨ k = 2 ∨ k = 3 ∨ k = 4 by omega) with rfl | rfl | rfl | rfl | rfl
    · go_wp2_with fail
      go_round
      case rel => exact ⟨1, by omega, by go_num, by first | rfl | go_num⟩
      case measure => simp [intOf]
    · go_wp2_with fail
      go_round
      case rel => exact ⟨2, by omega, by go_num, by first | rfl | go_num⟩
      case measure => simp [intOf]
    · rw [if_pos (by omega)]
      have hw : IntKind.u8.wrap ((p : Int) - 48) = ((p - 48 : Nat) : Int) := by
        rw [IntWalk.u8_in _ (by omega)]; omega
      go_wp2_with fail
      go_round
      case rel => exact ⟨3, by omega, by go_num, by first | rfl | go_num⟩
      case measure => simp [intOf]
    · rw [if_neg (by omega), if_pos rfl]
      have gv : ((p - 48 : Nat) : Int) ≤ 9 := by omega
      obtain ⟨v, hv⟩ : ∃ v, v = p - 48 := ⟨_, rfl⟩
      rw [← hv] at gv
      rw [← hv]
      have gv0 : (0 : Int) ≤ (v : Int) := by omega
      have HV := Aside0.mk hv
      clear hv
      rcases hq with ⟨q1, q2⟩ | ⟨q1, q2⟩
      · have q3 : (48 : Int) ≤ (q : Int) := by omega
        have q4 : (q : Int) ≤ 57 := by omega
        have HX : Aside0 (hexV q = q - 48) := ⟨by unfold hexV; rw [if_pos q2]⟩
        have hw : IntKind.u8.wrap ((q : Int) - 48) = ((q - 48 : Nat) : Int) := by
          rw [IntWalk.u8_in _ (by omega)]; omega
        go_wp2_with fail
        go_round
        case rel => exact ⟨4, by omega, by go_num, by rw [if_neg (by omega), if_neg (by omega), HX.out]; first | rfl | go_num | (congr 1; omega)⟩
        case measure => simp [intOf]
      · have q3 : (65 : Int) ≤ (q : Int) := by omega
        have q4 : (q : Int) ≤ 70 := by omega
        have HX : Aside0 (hexV q = q - 55) := ⟨by unfold hexV; rw [if_neg (by omega)]⟩
        have hw : IntKind.u8.wrap ((q : Int) - 65) = ((q - 65 : Nat) : Int) := by
          rw [IntWalk.u8_in _ (by omega)]; omega
        go_wp2_with fail
        go_round
        case rel => exact ⟨4, by omega, by go_num, by rw [if_neg (by omega), if_neg (by omega), HX.out]; first | rfl | go_num | (congr 1; omega)⟩
        case measure => simp [intOf]
    · rw [if_neg (by omega), if_neg (by omega)]
      have HQ2 := HQ.out
      obtain ⟨v, hv⟩ : ∃ v, v = (p - 48) * 16 + hexV q := ⟨_, rfl⟩
      have gv : (v : Int) ≤ 255 := by omega
      have gv0 : (0 : Int) ≤ (v : Int) := by omega
      rw [← hv]
      have HV := Aside0.mk hv
      clear hv HQ2
      go_wp2_with fail
      go_ret
      refine ⟨congrArg (fun z => Ending.returned (Value.int .i32 z)) (show (v : Int) = _ from ?_), rfl⟩
      have := HV.out
      omega
end Go.Proofs.YtmenjcjpihpjjaaDoor.Tm
