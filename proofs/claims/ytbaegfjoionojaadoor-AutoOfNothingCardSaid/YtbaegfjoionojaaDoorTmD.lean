/- The walk of isLang. -/
import Derived.Test.YtbaegfjoionojaaDoorTmC
set_option linter.unusedSimpArgs false
set_option linter.unusedVariables false
namespace Go.Proofs.YtbaegfjoionojaaDoor.Tm
open Go Go.RowKit Go.Shelf Go.Proofs.YtbaegfjoionojaaDoorW.PrintWords

theorem parts_lists (s : ByteArray) : (Lib.splitB ⟨#[45]⟩ 0 (Lib.countB s ⟨#[45]⟩) s).map (·.data.toList) = Lib.split s.data.toList [45] := Lib.splitB_data ⟨#[45]⟩ 0 _ s
theorem part_of {x : ByteArray} {i : Nat} (h0 : 0 < x.size) (h8 : x.size ≤ 8) : partB i x.data.toList = (runes x).all (langRuneB i) := by
  unfold partB
  rw [low_list (lang_low i), size_list]
  simp [h0, h8]
theorem part_short {x : ByteArray} {i : Nat} (h0 : ¬ 0 < x.size) : partB i x.data.toList = false := by
  unfold partB; rw [size_list]; simp [h0]
theorem part_long {x : ByteArray} {i : Nat} (h8 : ¬ x.size ≤ 8) : partB i x.data.toList = false := by
  unfold partB; rw [size_list]; simp [h8]
set_option maxRecDepth 100000 in
set_option maxHeartbeats 2000000 in
theorem lang_any (s : ByteArray) (w : World) (hs : s.size ≤ 1000) (hT : Tabs w) : Calls Tryd.prog 132 #[.string s] w fun e w' => e = .returned (.bool (langB s)) ∧ Below w.heap.size w w' := by
  obtain ⟨mx, hmx⟩ := hT.2
  have CS := Tryd.strings_Split s ⟨#[45]⟩ mx w (by omega) hmx (by decide)
  obtain ⟨P, hP⟩ : ∃ P, P = Lib.splitB ⟨#[45]⟩ 0 (Lib.countB s ⟨#[45]⟩) s := ⟨_, rfl⟩
  obtain ⟨n, hn⟩ : ∃ n, n = Lib.countB s ⟨#[45]⟩ + 1 := ⟨_, rfl⟩
  have hPl : P.length = n := by rw [hP, hn]; exact Lib.splitB_all ⟨#[45]⟩ (by decide) 0 _ s rfl
  have hn1 : n ≤ 1001 := by rw [hn]; have := Lib.countB_le ⟨#[45]⟩ (by decide) s.size s (Nat.le_refl _); omega
  have hL : P.map (·.data.toList) = Lib.split s.data.toList [45] := by rw [hP]; exact parts_lists s
  rw [← hP, ← hn] at CS
  obtain ⟨wz, hwz⟩ : ∃ wz, wz = w.alloc (.cells (P.map Value.string).toArray 9) := ⟨_, rfl⟩
  have HBZ := Aside0.mk (show Below w.heap.size w wz by rw [hwz]; exact below_alloc (Below.refl _ _) _)
  have HCZ : Aside0 (∀ i x, P[i]? = some x → wz.cell? ⟨w.heap.size, i, none⟩ = some (.string x)) := ⟨fun i x hx => by
    rw [hwz]; simp [hx]⟩
  have HNO : Aside0 (∀ k x, P[k]? = some x → partB k x.data.toList = false → langB s = false) := ⟨fun k x hx hp => by
    unfold langB
    rw [langGo_split, ← hL]
    rw [parts_false (i := 0) k x.data.toList (by rw [List.getElem?_map, hx]; rfl) (by rw [Nat.zero_add]; exact hp)]
    rfl⟩
  have HYES : Aside0 ((∀ k x, P[k]? = some x → partB k x.data.toList = true) → langB s = decide (s.size ≤ 16)) := ⟨fun h => by
    unfold langB
    rw [langGo_split, ← hL]
    rw [parts_true (i := 0) (fun k x hx => by
      rw [List.getElem?_map, Option.map_eq_some_iff] at hx
      obtain ⟨y, hy, rfl⟩ := hx
      rw [Nat.zero_add]; exact h k y hy)]
    rfl⟩
  have CS := Aside0.mk CS
  have HP := Aside0.mk hPl
  have HWZ := Aside0.mk hwz
  have hs2 : (s.size : Int) ≤ 1000 := by omega
  clear hmx hP hn hPl hL hwz hT
  go_enter Tryd.func132, Tryd.ntmps132
  go_wp2_with (go_at_call 152; (with_reducible refine CS.out.mono ?_); rintro e w1 ⟨rfl, rfl⟩; rw [← HWZ.out])
  go_loopw [8] (fun x wr => ∃ i : Nat, i ≤ n ∧ x = .int .i64 i ∧ Aside0 (∀ k x, k < i → P[k]? = some x → partB k x.data.toList = true) ∧ Aside0 (Below wz.heap.size wz wr)) (fun x _ => n - (intOf x).toNat)
  case atStart => exact ⟨0, by omega, rfl, ⟨fun k x hk _ => by omega⟩, ⟨Below.refl _ _⟩⟩
  case round =>
    obtain ⟨wr2, rfl⟩ : ∃ x, x = wr := ⟨wr, rfl⟩
    obtain ⟨i, hi, rfl, HI, HB⟩ := hrel
    by_cases hlt : i < n
    · obtain ⟨x, hx⟩ : ∃ x, P[i]? = some x := ⟨P[i]'(by rw [HP.out]; exact hlt), List.getElem?_eq_getElem _⟩
      have hc := pw_cell_below HB.out (HCZ.out i x hx)
      have HX := Aside0.mk hx
      have HN := Aside0.mk (fun h => HNO.out i x hx h)
      have hi2 : (0 : Int) ≤ (i : Int) := by omega
      have hi3 : (i : Int) < (n : Int) := by omega
      have HBW := Aside0.mk (below_alloc (below_then HBZ.out HBZ.out.size HB.out) (.cells #[.int .i64 (i : Int)] 3))
      clear hx
      by_cases h0 : 0 < x.size
      · have e1 := string_ne h0
        by_cases h8 : x.size ≤ 8
        · have g8 : (x.size : Int) ≤ 8 := by omega
          have CA := Aside0.mk (fun W (h : W.cell? ⟨wr2.heap.size, 0, none⟩ = some (.int .i64 (i : Int))) => all_lang i wr2.heap.size x W h)
          have HPO := Aside0.mk (part_of (i := i) h0 h8)
          obtain ⟨b, hb⟩ : ∃ b, b = (runes x).all (langRuneB i) := ⟨_, rfl⟩
          rw [← hb] at CA HPO
          clear hb h0 h8
          cases b with
          | true =>
            go_wp2_with (go_at_call 140; (with_reducible refine (CA.out _ ?hk).mono ?_); (case hk => simp); rintro e w2 ⟨rfl, hb⟩; have HB2 := Aside0.mk (HB.out.trans ((below_alloc (Below.refl wr2.heap.size wr2) (.cells #[.int .i64 (i : Int)] 3)).mono HB.out.size |>.trans (hb.mono (by simp; exact Nat.le_trans HB.out.size (Nat.le_succ _))))); clear hb)
            go_roundw
            case rel => exact ⟨i + 1, by omega, by go_num, ⟨fun k y hk hy => by
              by_cases hki : k < i
              · exact HI.out k y hki hy
              · obtain rfl : k = i := by omega
                have : x = y := Option.some.inj (HX.out.symm.trans hy)
                rw [← this]; exact HPO.out⟩, HB2⟩
            case measure => simp [intOf]; omega
          | false =>
            go_wp2_with (go_at_call 140; (with_reducible refine (CA.out _ ?hk).mono ?_); (case hk => simp); rintro e w2 ⟨rfl, hb⟩; have HB2 := Aside0.mk (below_then HBW.out HBW.out.size hb); clear hb)
            go_ret
            exact ⟨ret_b (HN.out HPO.out).symm, HB2.out⟩
        · have g8 : (8 : Int) < (x.size : Int) := by omega
          have HPO := Aside0.mk (part_long (i := i) h8)
          clear h0 h8
          go_wp2_with fail
          go_ret
          exact ⟨ret_b (HN.out HPO.out).symm, HBW.out⟩
      · have HPO := Aside0.mk (part_short (i := i) h0)
        obtain rfl := empty_list (s := x) (by omega)
        clear h0
        go_wp2_with fail
        go_ret
        exact ⟨ret_b (HN.out HPO.out).symm, HBW.out⟩
    · have hin : i = n := by omega
      subst hin
      have HE := Aside0.mk (HYES.out (fun k x hx => HI.out k x (by rw [← HP.out]; exact (List.getElem?_eq_some_iff.1 hx).1) hx))
      have HBF := Aside0.mk (below_then HBZ.out HBZ.out.size HB.out)
      go_wp2_with fail
      go_ret
      exact ⟨ret_b (by rw [HE.out, decide_eq_decide]; omega), HBF.out⟩
end Go.Proofs.YtbaegfjoionojaaDoor.Tm
