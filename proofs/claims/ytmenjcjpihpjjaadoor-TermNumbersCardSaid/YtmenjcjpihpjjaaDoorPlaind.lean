/- The walks of Parse: a number without a sign, where a point stands behind the digits. -/
import Derived.Test.YtmenjcjpihpjjaaDoorPlainc
set_option linter.unusedSimpArgs false
set_option linter.unusedVariables false
namespace Go.Proofs.YtmenjcjpihpjjaaDoor.Fb
open Go Go.RowKit Go.Proofs.YtmenjcjpihpjjaaDoorW.PrintWords Go.Proofs.YtmenjcjpihpjjaaDoorW.PrintLast Go.Proofs.YtmenjcjpihpjjaaDoorW.PrintMore
attribute [local go_sem] max2_int min2_int max_two min_two

theorem plainL_yes {l r : List UInt8} {n k : Nat} {ev : Int} {ok : Bool} (hn : digN l = n) (c : Lib.hasPrefix (l.drop n) [46] = true) (hr : Lib.trimPrefix (l.drop n) [46] = r) (hk : digN r = k) (hk2 : (r.take k).length = k) (hx : expL (r.drop k) = (ev, ok)) :
    (May ok (l.take n ++ r.take k) (ev - k) → plainL l = scaleF (wholeI (l.take n ++ r.take k)) (ev - k)) ∧ (¬ May ok (l.take n ++ r.take k) (ev - k) → plainL l = none) := by
  have e : plainL l = if ok = true ∧ l.take n ++ r.take k ≠ [] ∧ (l.take n ++ r.take k).length ≤ 15 ∧ -22 ≤ ev - k ∧ ev - k ≤ 22 then scaleF (wholeI (l.take n ++ r.take k)) (ev - k) else none := by
    unfold plainL pointL
    simp only [hn, c, if_true, hr, hk, hx, hk2]
  rw [e]
  exact ⟨fun h => if_pos h, fun h => if_neg h⟩
theorem plain_end' {w w1 : World} {n : Nat} {v : Option Nat} (hv : v = none) (hb : Below (w.drewN n).heap.size (w.drewN n) w1) :
    PlainP w v (.returned (.tuple #[.float .f64 0, .bool false])) w1 := plain_end hv hb
set_option maxHeartbeats 1000000 in
theorem plain_yes (s : ByteArray) (hs : s.size ≤ 200) (w : World) (c : Lib.hasPrefix (s.data.toList.drop (digN s.data.toList)) [46] = true)
    (hsc : ∀ m e : Int, 0 ≤ m → m < 1000000000000000 → -22 ≤ e → e ≤ 22 → ∃ r, scaleF m e = some r) :
    Calls Tryd.prog 67 #[.string s] w (PlainP w (plainL s.data.toList)) := by
  obtain ⟨n, hn⟩ : ∃ n, n = digN s.data.toList := ⟨_, rfl⟩
  have hns : n ≤ s.size := by have := digN_le s.data.toList; rw [hn, ← toList_size]; exact this
  have hdt := digN_take s.data.toList
  rw [← hn] at hdt
  have HDT := Aside0.mk hdt
  have HN := Aside0.mk hn.symm
  rw [← hn] at c
  have HC := Aside0.mk c
  have ht := extract_take s n
  have hd := extract_drop s n
  clear hn c hdt
  have HT := Aside0.mk ht
  have HD := Aside0.mk hd
  clear ht hd
  obtain ⟨R, hR⟩ : ∃ R, R = Lib.trimPrefix (s.data.toList.drop n) [46] := ⟨_, rfl⟩
  have hRl : R.length ≤ 200 := by
    have h1 : R.length ≤ (s.data.toList.drop n).length := by
      rw [hR]; unfold Lib.trimPrefix; split <;> (simp; try omega)
    rw [List.length_drop, toList_size] at h1; omega
  have HR := Aside0.mk hR.symm
  clear hR
  obtain ⟨s2, hs2⟩ : ∃ s2 : ByteArray, s2 = ⟨R.toArray⟩ := ⟨_, rfl⟩
  have hr2 : s2.data.toList = R := by rw [hs2]
  have hz2 : s2.size = R.length := by rw [← toList_size, hr2]
  have HS2 := Aside0.mk hs2.symm
  clear hs2
  obtain ⟨k, hk⟩ : ∃ k, k = digN R := ⟨_, rfl⟩
  have hks : k ≤ s2.size := by have := digN_le R; rw [hk, hz2]; exact this
  have hdk := digN_take R
  rw [← hk] at hdk
  have HDK := Aside0.mk hdk
  have HK := Aside0.mk hk.symm
  have hkl : (R.take k).length = k := by rw [List.length_take]; omega
  clear hk hdk
  have ht2 := extract_take s2 k
  have hd2 := extract_drop s2 k
  rw [hr2] at ht2 hd2
  have HT2 := Aside0.mk ht2
  have HD2 := Aside0.mk hd2
  clear ht2 hd2
  have CD := Aside0.mk (digits_any s (by omega))
  have CD2 := Aside0.mk (digits_any s2 (by omega))
  rw [hr2] at CD2
  have CE := Aside0.mk (fun w => exponent_any (s2.extract k s2.size) (by simp; omega) w)
  rw [HD2.out] at CE
  obtain ⟨x, hx⟩ : ∃ x, x = expL (R.drop k) := ⟨_, rfl⟩
  rw [← hx] at CE
  have HX := Aside0.mk hx.symm
  have hxb := expL_bound (R.drop k)
  rw [← hx] at hxb
  clear hx
  obtain ⟨ev, ok⟩ := x
  obtain ⟨hx1, hx2⟩ := hxb
  simp only at hx1 hx2
  have HP := Aside0.mk (plainL_yes HN.out HC.out HR.out HK.out hkl HX.out)
  have hb : (s.extract 0 n ++ s2.extract 0 k).data.toList = s.data.toList.take n ++ R.take k := by
    rw [ByteArray.data_append, Array.toList_append, HT.out, HT2.out]
  have hlen : (s.data.toList.take n ++ R.take k).length = n + k := by rw [List.length_append, hkl, List.length_take, toList_size]; omega
  have hbz : (s.extract 0 n ++ s2.extract 0 k).size = n + k := by
    rw [← toList_size, hb, hlen]
  have hk200 : s2.size ≤ 200 := by omega
  clear hr2 hz2 hkl hRl
  by_cases hm : May ok (s.data.toList.take n ++ R.take k) (ev - k)
  · have hp := HP.out.1 hm
    obtain ⟨m1, m2, m3, m4, m5⟩ := hm
    subst m1
    obtain ⟨v1, v2⟩ := wholeI_small _ (HDT.out.append HDK.out) m3
    obtain ⟨r, hr⟩ := hsc _ (ev - k) v1 v2 m4 m5
    have CW := Aside0.mk (fun w => whole_any (s.extract 0 n ++ s2.extract 0 k) (by omega) (by rw [hb]; exact HDT.out.append HDK.out) w)
    rw [hb] at CW
    have CS := Aside0.mk (fun w => scaled_any _ (ev - k) r m4 m5 hr w)
    have h1 : (s.extract 0 n ++ s2.extract 0 k).toList.isEmpty = false := by
      rw [bytes_toList, hb]; simpa using m2
    have HF := Aside0.mk (hp.trans hr)
    rw [hlen] at m3
    generalize wholeI (List.take n s.data.toList ++ List.take k R) = M at *
    clear hp hr hb hbz hlen m2 v1 v2 hsc HP
    go_enter Tryd.func67, Tryd.ntmps67
    go_wp2_with (first
      | (go_at_call 80; (with_reducible refine (CD.out _).mono ?_); rintro e w1 ⟨rfl, rfl⟩; rw [HN.out]))
    go_quiet (fail)
    go_wp2_with (first
      | (go_at_call 33; (with_reducible refine (Tryd.strings_CutPrefix _ _ _).mono ?_); rintro e w1 ⟨rfl, rfl⟩; rw [HD.out, show (⟨#[46]⟩ : ByteArray).data.toList = [46] from rfl, HC.out, HR.out, HS2.out])
      | (go_at_call 80; (with_reducible refine (CD2.out _).mono ?_); rintro e w1 ⟨rfl, rfl⟩; rw [HK.out]))
    go_quiet (fail)
    go_wp2_with (first
      | (go_at_call 81; (with_reducible refine (CE.out _).mono ?_); rintro e w1 ⟨rfl, hb⟩; have HB := Aside0.mk hb; clear hb)
      | (go_at_call 83; (with_reducible refine (CW.out _).mono ?_); rintro e w2 ⟨rfl, hb2⟩; have HB2 := Aside0.mk hb2; clear hb2)
      | (go_at_call 82; (with_reducible refine (CS.out _).mono ?_); rintro e w3 ⟨rfl, rfl⟩))
    go_ret2
    exact plain_end2 HF.out HB.out HB2.out
  · have hp := HP.out.2 hm
    have HF := Aside0.mk hp
    have HM := Aside0.mk hm
    have HB0 := Aside0.mk hb
    have HL := Aside0.mk hlen
    clear hp hm hb hbz hlen hsc HP
    go_enter Tryd.func67, Tryd.ntmps67
    go_wp2_with (first
      | (go_at_call 80; (with_reducible refine (CD.out _).mono ?_); rintro e w1 ⟨rfl, rfl⟩; rw [HN.out]))
    go_quiet (fail)
    go_wp2_with (first
      | (go_at_call 33; (with_reducible refine (Tryd.strings_CutPrefix _ _ _).mono ?_); rintro e w1 ⟨rfl, rfl⟩; rw [HD.out, show (⟨#[46]⟩ : ByteArray).data.toList = [46] from rfl, HC.out, HR.out, HS2.out])
      | (go_at_call 80; (with_reducible refine (CD2.out _).mono ?_); rintro e w1 ⟨rfl, rfl⟩; rw [HK.out]))
    go_quiet (fail)
    go_wp2_with (first
      | (go_at_call 81; (with_reducible refine (CE.out _).mono ?_); rintro e w1 ⟨rfl, hb⟩; have HB := Aside0.mk hb; clear hb))
    all_goals first
      | (go_ret2; exact plain_end' HF.out HB.out)
      | (exfalso
         have k1 : ok = true := by assumption
         have k2 : (((s.extract 0 n ++ s2.extract 0 k).toList.isEmpty = false ∧ (n : Int) + (k : Int) ≤ 15) ∧ -22 ≤ ev - (k : Int)) ∧ ev - (k : Int) ≤ 22 := by assumption
         exact HM.out (may_of HB0.out k1 k2.1.1.1 (by rw [HL.out]; omega) k2.1.2 k2.2))
theorem plain_any (s : ByteArray) (hs : s.size ≤ 200) (w : World)
    (hsc : ∀ m e : Int, 0 ≤ m → m < 1000000000000000 → -22 ≤ e → e ≤ 22 → ∃ r, scaleF m e = some r) :
    Calls Tryd.prog 67 #[.string s] w (PlainP w (plainL s.data.toList)) := by
  cases c : Lib.hasPrefix (s.data.toList.drop (digN s.data.toList)) [46] with
  | true => exact plain_yes s hs w c hsc
  | false => exact plain_no s hs w c hsc
end Go.Proofs.YtmenjcjpihpjjaaDoor.Fb
