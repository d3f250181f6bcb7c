/- The walk of the reference's lang. -/
import Derived.Test.YtbaegfjoionojaaDoorTmG
import Derived.Deep.QuietTactic
import Derived.BigQuiet
set_option linter.unusedSimpArgs false
set_option linter.unusedVariables false
namespace Go.Proofs.YtbaegfjoionojaaDoor.Tm
open Go Go.RowKit Go.Shelf Go.Proofs.YtbaegfjoionojaaDoorW.PrintWords

theorem drop_byte (s : ByteArray) (k : Nat) (h : k < s.size) : s.data.toList.drop k = s[k] :: s.data.toList.drop (k + 1) := by
  have h2 : k < s.data.toList.length := by rw [size_list]; exact h
  rw [List.drop_eq_getElem_cons h2]; rfl
theorem go_dash {i n : Nat} {b : UInt8} {l : List UInt8} (hb : b.toNat = 45) (hn : 0 < n) : langGo i n (b :: l) = langGo (i + 1) 0 l := by
  have : b = 45 := UInt8.toNat_inj.1 hb
  subst this
  conv => lhs; unfold langGo
  rw [if_pos ⟨rfl, hn⟩]
theorem go_sign {i n : Nat} {b : UInt8} {l : List UInt8} (hb : langRuneB i b.toNat = true) (hn : n ≤ 7) : langGo i n (b :: l) = langGo i (n + 1) l := by
  have : ¬ b = 45 := fun e => by rw [e, dash_no] at hb; cases hb
  conv => lhs; unfold langGo
  rw [if_neg (fun h => this h.1), if_pos hb, if_neg (by omega)]
theorem go_many {i n : Nat} {b : UInt8} {l : List UInt8} (hb : langRuneB i b.toNat = true) (hn : 8 ≤ n) : langGo i n (b :: l) = false := by
  have : ¬ b = 45 := fun e => by rw [e, dash_no] at hb; cases hb
  unfold langGo
  rw [if_neg (fun h => this h.1), if_pos hb, if_pos (by omega)]
theorem go_bad {i n : Nat} {b : UInt8} {l : List UInt8} (hb : langRuneB i b.toNat = false) (hd : b.toNat ≠ 45 ∨ n = 0) : langGo i n (b :: l) = false := by
  have hne : ¬ (b = 45 ∧ 0 < n) := fun h => hd.elim (fun hd => hd (by rw [h.1]; rfl)) (fun hd => by omega)
  unfold langGo
  rw [if_neg hne, hb, if_neg (by simp)]
set_option maxRecDepth 100000 in
set_option maxHeartbeats 4000000 in
theorem refLang_any (s : ByteArray) (w : World) (hs : s.size ≤ 1000) : Calls Tryd.prog 134 #[.string s] w fun e w' => e = .returned (.bool (langB s)) ∧ Below w.heap.size w w' := by
  obtain ⟨L, hL⟩ : ∃ L, L = s.data.toList := ⟨_, rfl⟩
  have HB : Aside0 (langB s = (langGo 0 0 L && decide (s.size ≤ 16))) := ⟨by unfold langB; rw [hL]⟩
  have HD : Aside0 (∀ k (h : k < s.size), L.drop k = s[k] :: L.drop (k + 1)) := ⟨fun k h => by rw [hL]; exact drop_byte s k h⟩
  have HN : Aside0 (L.drop s.size = []) := ⟨by rw [hL, List.drop_of_length_le (by rw [size_list]; exact Nat.le_refl _)]⟩
  have hs2 : (s.size : Int) ≤ 1000 := by omega
  have HZ : Aside0 (langGo 0 0 L = langGo 0 0 (L.drop 0)) := ⟨rfl⟩
  clear hL
  go_enter Tryd.func134, Tryd.ntmps134
  go_wp2_with fail
  go_loopw [3, 4, 5] (fun s3 s4 s5 wr => ∃ (part n k : Nat), k ≤ s.size ∧ n ≤ 8 ∧ part ≤ k ∧ s3 = .int .i64 part ∧ s4 = .int .i64 n ∧ s5 = .int .i64 k ∧ Aside0 (langGo 0 0 L = langGo part n (L.drop k)) ∧ Aside0 (Below w.heap.size w wr)) (fun _ _ x _ => s.size - (intOf x).toNat)
  case atStart => exact ⟨0, 0, 0, by omega, by omega, by omega, rfl, rfl, rfl, HZ, ⟨Below.refl _ _⟩⟩
  case round =>
    obtain ⟨part, n, k, hk, hn, hpk, rfl, rfl, rfl, HG, HBW⟩ := hrel
    by_cases hlt : k < s.size
    · have HDK := Aside0.mk (HD.out k hlt)
      have hk0 : (0 : Int) ≤ (k : Int) := by omega
      obtain ⟨c, hc⟩ : ∃ c, c = s[k].toNat := ⟨_, rfl⟩
      have hcase : (97 ≤ c ∧ c ≤ 122) ∨ (48 ≤ c ∧ c ≤ 57) ∨ c = 45 ∨ (c < 48 ∧ c ≠ 45) ∨ (57 < c ∧ c < 97) ∨ 122 < c := by omega
      rcases hcase with ⟨h1, h2⟩ | ⟨h1, h2⟩ | h1 | ⟨h1, h2⟩ | ⟨h1, h2⟩ | h1
      · have HR : Aside0 (langRuneB part s[k].toNat = true) := ⟨by rw [← hc]; unfold langRuneB smallB; simp [h1, h2]⟩
        rw [hc] at h1 h2
        have g0 : (97 : Int) ≤ ((s[k].toNat : Nat) : Int) := by omega
        have g1 : ((s[k].toNat : Nat) : Int) ≤ 122 := by omega
        have g2 : (48 : Int) ≤ ((s[k].toNat : Nat) : Int) := by omega
        have g3 : (57 : Int) < ((s[k].toNat : Nat) : Int) := by omega
        have g9 : (((s[k].toNat : Nat) : Int) == 45) = false := by rw [beq_eq_false_iff_ne]; omega
        clear h1 h2 hc
        by_cases h8 : n ≤ 7
        · have g8 : (n : Int) ≤ 7 := by omega
          go_wp2_with fail
          go_quiet (fail)
          go_wp2_with fail
          go_roundw
          case rel => exact ⟨part, n + 1, k + 1, by omega, by omega, by omega, by go_num, by go_num, by go_num, ⟨by rw [HG.out, HDK.out, go_sign HR.out h8]⟩, ⟨pw_below_drewN HBW.out _⟩⟩
          case measure => simp [intOf]; omega
        · have hn8 : n = 8 := by omega
          subst hn8
          go_wp2_with fail
          go_quiet (fail)
          go_wp2_with fail
          go_ret
          exact ⟨ret_b (by rw [HB.out, HG.out, HDK.out, go_many HR.out (Nat.le_refl _)]; rfl), pw_below_drewN HBW.out _⟩
      · rw [hc] at h1 h2
        have g0 : (48 : Int) ≤ ((s[k].toNat : Nat) : Int) := by omega
        have g1 : ((s[k].toNat : Nat) : Int) ≤ 57 := by omega
        have g2 : ((s[k].toNat : Nat) : Int) < 97 := by omega
        have d2 : decide ((97 : Int) ≤ ((s[k].toNat : Nat) : Int)) = false := decide_eq_false (by omega)
        have g9 : (((s[k].toNat : Nat) : Int) == 45) = false := by rw [beq_eq_false_iff_ne]; omega
        by_cases hp : 0 < part
        · have HR : Aside0 (langRuneB part s[k].toNat = true) := ⟨by unfold langRuneB digitB; simp [h1, h2, hp]⟩
          have gp : (0 : Int) < (part : Int) := by omega
          clear h1 h2 hc
          by_cases h8 : n ≤ 7
          · have g8 : (n : Int) ≤ 7 := by omega
            go_wp2_with fail
            go_quiet (fail)
            go_wp2_with fail
            go_roundw
            case rel => exact ⟨part, n + 1, k + 1, by omega, by omega, by omega, by go_num, by go_num, by go_num, ⟨by rw [HG.out, HDK.out, go_sign HR.out h8]⟩, ⟨pw_below_drewN HBW.out _⟩⟩
            case measure => simp [intOf]; omega
          · have hn8 : n = 8 := by omega
            subst hn8
            go_wp2_with fail
            go_quiet (fail)
            go_wp2_with fail
            go_ret
            exact ⟨ret_b (by rw [HB.out, HG.out, HDK.out, go_many HR.out (Nat.le_refl _)]; rfl), pw_below_drewN HBW.out _⟩
        · have hp0 : part = 0 := by omega
          subst hp0
          have HR : Aside0 (langRuneB 0 s[k].toNat = false) := ⟨by unfold langRuneB smallB; simp; omega⟩
          have HN45 : Aside0 (s[k].toNat ≠ 45) := ⟨by omega⟩
          clear h1 h2 hc
          go_wp2_with fail
          go_quiet (fail)
          go_wp2_with fail
          go_ret
          exact ⟨ret_b (by rw [HB.out, HG.out, HDK.out, go_bad HR.out (.inl HN45.out)]; rfl), pw_below_drewN HBW.out _⟩
      · have HE : Aside0 (s[k].toNat = 45) := ⟨by rw [← hc]; exact h1⟩
        rw [hc] at h1
        have g0 : ((s[k].toNat : Nat) : Int) < 48 := by omega
        have d0 : decide ((48 : Int) ≤ ((s[k].toNat : Nat) : Int)) = false := decide_eq_false (by omega)
        have g1 : ((s[k].toNat : Nat) : Int) < 97 := by omega
        have d1 : decide ((97 : Int) ≤ ((s[k].toNat : Nat) : Int)) = false := decide_eq_false (by omega)
        have g9 : (((s[k].toNat : Nat) : Int) == 45) = true := by rw [beq_iff_eq]; omega
        clear h1 hc
        by_cases h0 : 0 < n
        · have gn : (0 : Int) < (n : Int) := by omega
          go_wp2_with fail
          go_quiet (fail)
          go_wp2_with fail
          go_roundw
          case rel => exact ⟨part + 1, 0, k + 1, by omega, by omega, by omega, by go_num, by go_num, by go_num, ⟨by rw [HG.out, HDK.out, go_dash HE.out h0]⟩, ⟨pw_below_drewN HBW.out _⟩⟩
          case measure => simp [intOf]; omega
        · have hn0 : n = 0 := by omega
          subst hn0
          have HR : Aside0 (langRuneB part s[k].toNat = false) := ⟨by rw [HE.out]; exact dash_no part⟩
          go_wp2_with fail
          go_quiet (fail)
          go_wp2_with fail
          go_ret
          exact ⟨ret_b (by rw [HB.out, HG.out, HDK.out, go_bad HR.out (.inr rfl)]; rfl), pw_below_drewN HBW.out _⟩
      · rw [hc] at h1 h2
        have g0 : ((s[k].toNat : Nat) : Int) < 48 := by omega
        have d0 : decide ((48 : Int) ≤ ((s[k].toNat : Nat) : Int)) = false := decide_eq_false (by omega)
        have g1 : ((s[k].toNat : Nat) : Int) < 97 := by omega
        have d1 : decide ((97 : Int) ≤ ((s[k].toNat : Nat) : Int)) = false := decide_eq_false (by omega)
        have g9 : (((s[k].toNat : Nat) : Int) == 45) = false := by rw [beq_eq_false_iff_ne]; omega
        have HR : Aside0 (langRuneB part s[k].toNat = false) := ⟨by unfold langRuneB smallB digitB; simp; omega⟩
        have HN45 : Aside0 (s[k].toNat ≠ 45) := ⟨by omega⟩
        clear h1 h2 hc
        go_wp2_with fail
        go_quiet (fail)
        go_wp2_with fail
        go_ret
        exact ⟨ret_b (by rw [HB.out, HG.out, HDK.out, go_bad HR.out (.inl HN45.out)]; rfl), pw_below_drewN HBW.out _⟩
      · rw [hc] at h1 h2
        have g0 : (48 : Int) ≤ ((s[k].toNat : Nat) : Int) := by omega
        have g1 : (57 : Int) < ((s[k].toNat : Nat) : Int) := by omega
        have g2 : ((s[k].toNat : Nat) : Int) < 97 := by omega
        have d2 : decide ((97 : Int) ≤ ((s[k].toNat : Nat) : Int)) = false := decide_eq_false (by omega)
        have g9 : (((s[k].toNat : Nat) : Int) == 45) = false := by rw [beq_eq_false_iff_ne]; omega
        have HR : Aside0 (langRuneB part s[k].toNat = false) := ⟨by unfold langRuneB smallB digitB; simp; omega⟩
        have HN45 : Aside0 (s[k].toNat ≠ 45) := ⟨by omega⟩
        clear h1 h2 hc
        go_wp2_with fail
        go_quiet (fail)
        go_wp2_with fail
        go_ret
        exact ⟨ret_b (by rw [HB.out, HG.out, HDK.out, go_bad HR.out (.inl HN45.out)]; rfl), pw_below_drewN HBW.out _⟩
      · rw [hc] at h1
        have g0 : (48 : Int) ≤ ((s[k].toNat : Nat) : Int) := by omega
        have g1 : (57 : Int) < ((s[k].toNat : Nat) : Int) := by omega
        have g2 : (97 : Int) ≤ ((s[k].toNat : Nat) : Int) := by omega
        have g3 : (122 : Int) < ((s[k].toNat : Nat) : Int) := by omega
        have g9 : (((s[k].toNat : Nat) : Int) == 45) = false := by rw [beq_eq_false_iff_ne]; omega
        have HR : Aside0 (langRuneB part s[k].toNat = false) := ⟨by unfold langRuneB smallB digitB; simp; omega⟩
        have HN45 : Aside0 (s[k].toNat ≠ 45) := ⟨by omega⟩
        clear h1 hc
        go_wp2_with fail
        go_quiet (fail)
        go_wp2_with fail
        go_ret
        exact ⟨ret_b (by rw [HB.out, HG.out, HDK.out, go_bad HR.out (.inl HN45.out)]; rfl), pw_below_drewN HBW.out _⟩
    · have hks : k = s.size := by omega
      have HE : Aside0 (langGo 0 0 L = decide (0 < n)) := ⟨by rw [HG.out, hks, HN.out]; rfl⟩
      subst hks
      go_wp2_with fail
      all_goals
        go_ret
        exact ⟨ret_b (by rw [HB.out, HE.out, Bool.eq_iff_iff]; simp only [Bool.and_eq_true, decide_eq_true_eq, Bool.false_eq_true, false_iff]; omega), HBW.out⟩
end Go.Proofs.YtbaegfjoionojaaDoor.Tm
