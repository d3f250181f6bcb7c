/- The walks of the reference's escaped and Show. -/
import Derived.Test.YtmenjcjpihpjjaaDoorTmS
set_option linter.unusedSimpArgs false
set_option linter.unusedVariables false
namespace Go.Proofs.YtmenjcjpihpjjaaDoor.Tm
open Go Go.RowKit Go.Shelf Go.Proofs.YtmenjcjpihpjjaaDoorW.PrintWords

theorem lst_app (a b : ByteArray) : (a ++ b).data.toList = a.data.toList ++ b.data.toList := by
  rw [ByteArray.data_append]; simp
theorem ext_one (s : ByteArray) (k : Nat) (h : k < s.size) : (s.extract k (k + 1)).data.toList = [s[k]] := by
  rw [ByteArray.data_extract, Array.toList_extract]
  have h2 : k < s.data.toList.length := by rw [size_list]; exact h
  simp only [List.extract_eq_take_drop]
  rw [show k + 1 - k = 1 by omega]
  rw [List.drop_eq_getElem_cons h2]
  rfl
set_option maxRecDepth 100000 in
set_option maxHeartbeats 16000000 in
theorem refEsc_any (s : ByteArray) (w : World) (hs : s.size ≤ 1000) : Calls Tryd.prog 58 #[.string s] w fun e w' => e = .returned (.string ⟨(qL (lst s)).toArray⟩) ∧ Below w.heap.size w w' := by
  have hs2 : (s.size : Int) ≤ 1000 := by omega
  have HW := Aside0.mk (Below.refl w.heap.size w)
  go_enter Tryd.func58, Tryd.ntmps58
  go_wp2_with fail
  go_loopw [6, 7] (fun x y wr => ∃ (sb : ByteArray) (k : Nat), x = .string sb ∧ y = .int .i64 k ∧ k ≤ s.size ∧ sb.size ≤ 6 * k ∧ Aside0 (sb.data.toList = qL ((lst s).take k)) ∧ Aside0 (Below w.heap.size w wr)) (fun _ y _ => s.size - (intOf y).toNat)
  case atStart => exact ⟨⟨#[]⟩, 0, rfl, rfl, by omega, by decide, ⟨by simp [qL]⟩, HW⟩
  case round =>
    obtain ⟨wa, rfl⟩ : ∃ x, x = wr := ⟨wr, rfl⟩
    obtain ⟨sb, k, rfl, rfl, hk, hsb, HS, HB⟩ := hrel
    by_cases hlt : k < s.size
    · obtain ⟨c, hcc⟩ : ∃ c, s[k].toNat = c := ⟨_, rfl⟩
      have hc8 : (lst s)[k]? = some s[k] := by
        unfold lst
        rw [List.getElem?_eq_getElem (by rw [size_list]; exact hlt)]
        rfl
      have hq := qL_step hc8
      have HQ : Aside0 (qL ((lst s).take (k + 1)) = qL ((lst s).take k) ++ qByte s[k]) := ⟨hq⟩
      have HCC := Aside0.mk hcc
      have hk2 : (0 : Int) ≤ (k : Int) := by omega
      have hk3 : (k : Int) < (s.size : Int) := by omega
      clear hc8 hq HW
      rcases (show (c = 34 ∨ c = 92 ∨ c = 10 ∨ c = 13 ∨ c = 9 ∨ c = 8 ∨ c = 12) ∨ (c ≠ 34 ∧ c ≠ 92 ∧ c ≠ 10 ∧ c ≠ 13 ∧ c ≠ 9 ∧ c ≠ 8 ∧ c ≠ 12) by omega) with (rfl | rfl | rfl | rfl | rfl | rfl | rfl) | ⟨e0, e1, e2, e3, e4, e5, e6⟩
      · go_wp2_with fail
        go_loop [9] (fun x => ∃ m : Nat, m ≤ 0 ∧ x = .int .i64 m) (fun x => 0 - (intOf x).toNat)
        case atStart => exact ⟨0, by omega, rfl⟩
        case round =>
          obtain ⟨m, hm, rfl⟩ := hrel
          rcases (show m = 0 by omega) with rfl
          · go_wp2_with fail
            go_roundw
            case rel => exact ⟨_, k + 1, rfl, by go_num, by omega, by rw [show (⟨#[34, 92, 110, 114, 116, 98, 102]⟩ : ByteArray).extract 0 1 = ⟨#[34]⟩ by kernel_rfl, ByteArray.size_append, ByteArray.size_append]; show sb.size + 1 + 1 ≤ _; omega, ⟨by rw [lst_app, lst_app, HS.out, HQ.out, List.append_assoc]; congr 1; unfold qByte; rw [HCC.out]; kernel_rfl⟩, HB⟩
            case measure => simp [intOf]; omega
      · go_wp2_with fail
        go_loop [9] (fun x => ∃ m : Nat, m ≤ 1 ∧ x = .int .i64 m) (fun x => 1 - (intOf x).toNat)
        case atStart => exact ⟨0, by omega, rfl⟩
        case round =>
          obtain ⟨m, hm, rfl⟩ := hrel
          rcases (show m = 0 ∨ m = 1 by omega) with rfl | rfl
          · go_wp2_with fail
            go_round
            case rel => exact ⟨0 + 1, by omega, by go_num⟩
            case measure => simp [intOf]
          · go_wp2_with fail
            go_roundw
            case rel => exact ⟨_, k + 1, rfl, by go_num, by omega, by rw [show (⟨#[34, 92, 110, 114, 116, 98, 102]⟩ : ByteArray).extract 1 2 = ⟨#[92]⟩ by kernel_rfl, ByteArray.size_append, ByteArray.size_append]; show sb.size + 1 + 1 ≤ _; omega, ⟨by rw [lst_app, lst_app, HS.out, HQ.out, List.append_assoc]; congr 1; unfold qByte; rw [HCC.out]; kernel_rfl⟩, HB⟩
            case measure => simp [intOf]; omega
      · go_wp2_with fail
        go_loop [9] (fun x => ∃ m : Nat, m ≤ 2 ∧ x = .int .i64 m) (fun x => 2 - (intOf x).toNat)
        case atStart => exact ⟨0, by omega, rfl⟩
        case round =>
          obtain ⟨m, hm, rfl⟩ := hrel
          rcases (show m = 0 ∨ m = 1 ∨ m = 2 by omega) with rfl | rfl | rfl
          · go_wp2_with fail
            go_round
            case rel => exact ⟨0 + 1, by omega, by go_num⟩
            case measure => simp [intOf]
          · go_wp2_with fail
            go_round
            case rel => exact ⟨1 + 1, by omega, by go_num⟩
            case measure => simp [intOf]
          · go_wp2_with fail
            go_roundw
            case rel => exact ⟨_, k + 1, rfl, by go_num, by omega, by rw [show (⟨#[34, 92, 110, 114, 116, 98, 102]⟩ : ByteArray).extract 2 3 = ⟨#[110]⟩ by kernel_rfl, ByteArray.size_append, ByteArray.size_append]; show sb.size + 1 + 1 ≤ _; omega, ⟨by rw [lst_app, lst_app, HS.out, HQ.out, List.append_assoc]; congr 1; unfold qByte; rw [HCC.out]; kernel_rfl⟩, HB⟩
            case measure => simp [intOf]; omega
      · go_wp2_with fail
        go_loop [9] (fun x => ∃ m : Nat, m ≤ 3 ∧ x = .int .i64 m) (fun x => 3 - (intOf x).toNat)
        case atStart => exact ⟨0, by omega, rfl⟩
        case round =>
          obtain ⟨m, hm, rfl⟩ := hrel
          rcases (show m = 0 ∨ m = 1 ∨ m = 2 ∨ m = 3 by omega) with rfl | rfl | rfl | rfl
          · go_wp2_with fail
            go_round
            case rel => exact ⟨0 + 1, by omega, by go_num⟩
            case measure => simp [intOf]
          · go_wp2_with fail
            go_round
            case rel => exact ⟨1 + 1, by omega, by go_num⟩
            case measure => simp [intOf]
          · go_wp2_with fail
            go_round
            case rel => exact ⟨2 + 1, by omega, by go_num⟩
            case measure => simp [intOf]
          · go_wp2_with fail
            go_roundw
            case rel => exact ⟨_, k + 1, rfl, by go_num, by omega, by rw [show (⟨#[34, 92, 110, 114, 116, 98, 102]⟩ : ByteArray).extract 3 4 = ⟨#[114]⟩ by kernel_rfl, ByteArray.size_append, ByteArray.size_append]; show sb.size + 1 + 1 ≤ _; omega, ⟨by rw [lst_app, lst_app, HS.out, HQ.out, List.append_assoc]; congr 1; unfold qByte; rw [HCC.out]; kernel_rfl⟩, HB⟩
            case measure => simp [intOf]; omega
      · go_wp2_with fail
        go_loop [9] (fun x => ∃ m : Nat, m ≤ 4 ∧ x = .int .i64 m) (fun x => 4 - (intOf x).toNat)
        case atStart => exact ⟨0, by omega, rfl⟩
        case round =>
          obtain ⟨m, hm, rfl⟩ := hrel
          rcases (show m = 0 ∨ m = 1 ∨ m = 2 ∨ m = 3 ∨ m = 4 by omega) with rfl | rfl | rfl | rfl | rfl
          · go_wp2_with fail
            go_round
            case rel => exact ⟨0 + 1, by omega, by go_num⟩
            case measure => simp [intOf]
          · go_wp2_with fail
            go_round
            case rel => exact ⟨1 + 1, by omega, by go_num⟩
            case measure => simp [intOf]
          · go_wp2_with fail
            go_round
            case rel => exact ⟨2 + 1, by omega, by go_num⟩
            case measure => simp [intOf]
          · go_wp2_with fail
            go_round
            case rel => exact ⟨3 + 1, by omega, by go_num⟩
            case measure => simp [intOf]
          · go_wp2_with fail
            go_roundw
            case rel => exact ⟨_, k + 1, rfl, by go_num, by omega, by rw [show (⟨#[34, 92, 110, 114, 116, 98, 102]⟩ : ByteArray).extract 4 5 = ⟨#[116]⟩ by kernel_rfl, ByteArray.size_append, ByteArray.size_append]; show sb.size + 1 + 1 ≤ _; omega, ⟨by rw [lst_app, lst_app, HS.out, HQ.out, List.append_assoc]; congr 1; unfold qByte; rw [HCC.out]; kernel_rfl⟩, HB⟩
            case measure => simp [intOf]; omega
      · go_wp2_with fail
        go_loop [9] (fun x => ∃ m : Nat, m ≤ 5 ∧ x = .int .i64 m) (fun x => 5 - (intOf x).toNat)
        case atStart => exact ⟨0, by omega, rfl⟩
        case round =>
          obtain ⟨m, hm, rfl⟩ := hrel
          rcases (show m = 0 ∨ m = 1 ∨ m = 2 ∨ m = 3 ∨ m = 4 ∨ m = 5 by omega) with rfl | rfl | rfl | rfl | rfl | rfl
          · go_wp2_with fail
            go_round
            case rel => exact ⟨0 + 1, by omega, by go_num⟩
            case measure => simp [intOf]
          · go_wp2_with fail
            go_round
            case rel => exact ⟨1 + 1, by omega, by go_num⟩
            case measure => simp [intOf]
          · go_wp2_with fail
            go_round
            case rel => exact ⟨2 + 1, by omega, by go_num⟩
            case measure => simp [intOf]
          · go_wp2_with fail
            go_round
            case rel => exact ⟨3 + 1, by omega, by go_num⟩
            case measure => simp [intOf]
          · go_wp2_with fail
            go_round
            case rel => exact ⟨4 + 1, by omega, by go_num⟩
            case measure => simp [intOf]
          · go_wp2_with fail
            go_roundw
            case rel => exact ⟨_, k + 1, rfl, by go_num, by omega, by rw [show (⟨#[34, 92, 110, 114, 116, 98, 102]⟩ : ByteArray).extract 5 6 = ⟨#[98]⟩ by kernel_rfl, ByteArray.size_append, ByteArray.size_append]; show sb.size + 1 + 1 ≤ _; omega, ⟨by rw [lst_app, lst_app, HS.out, HQ.out, List.append_assoc]; congr 1; unfold qByte; rw [HCC.out]; kernel_rfl⟩, HB⟩
            case measure => simp [intOf]; omega
      · go_wp2_with fail
        go_loop [9] (fun x => ∃ m : Nat, m ≤ 6 ∧ x = .int .i64 m) (fun x => 6 - (intOf x).toNat)
        case atStart => exact ⟨0, by omega, rfl⟩
        case round =>
          obtain ⟨m, hm, rfl⟩ := hrel
          rcases (show m = 0 ∨ m = 1 ∨ m = 2 ∨ m = 3 ∨ m = 4 ∨ m = 5 ∨ m = 6 by omega) with rfl | rfl | rfl | rfl | rfl | rfl | rfl
          · go_wp2_with fail
            go_round
            case rel => exact ⟨0 + 1, by omega, by go_num⟩
            case measure => simp [intOf]
          · go_wp2_with fail
            go_round
            case rel => exact ⟨1 + 1, by omega, by go_num⟩
            case measure => simp [intOf]
          · go_wp2_with fail
            go_round
            case rel => exact ⟨2 + 1, by omega, by go_num⟩
            case measure => simp [intOf]
          · go_wp2_with fail
            go_round
            case rel => exact ⟨3 + 1, by omega, by go_num⟩
            case measure => simp [intOf]
          · go_wp2_with fail
            go_round
            case rel => exact ⟨4 + 1, by omega, by go_num⟩
            case measure => simp [intOf]
          · go_wp2_with fail
            go_round
            case rel => exact ⟨5 + 1, by omega, by go_num⟩
            case measure => simp [intOf]
          · go_wp2_with fail
            go_roundw
            case rel => exact ⟨_, k + 1, rfl, by go_num, by omega, by rw [show (⟨#[34, 92, 110, 114, 116, 98, 102]⟩ : ByteArray).extract 6 7 = ⟨#[102]⟩ by kernel_rfl, ByteArray.size_append, ByteArray.size_append]; show sb.size + 1 + 1 ≤ _; omega, ⟨by rw [lst_app, lst_app, HS.out, HQ.out, List.append_assoc]; congr 1; unfold qByte; rw [HCC.out]; kernel_rfl⟩, HB⟩
            case measure => simp [intOf]; omega
      · go_wp2_with fail
        go_loop [9] (fun x => ∃ m : Nat, m ≤ 7 ∧ x = .int .i64 m) (fun x => 7 - (intOf x).toNat)
        case atStart => exact ⟨0, by omega, rfl⟩
        case round =>
          obtain ⟨m, hm, rfl⟩ := hrel
          rcases (show m = 0 ∨ m = 1 ∨ m = 2 ∨ m = 3 ∨ m = 4 ∨ m = 5 ∨ m = 6 ∨ m = 7 by omega) with rfl | rfl | rfl | rfl | rfl | rfl | rfl | rfl
          · have en : ((34 : Int) != (c : Int)) = true := by rw [bne_iff_ne]; omega
            go_wp2_with fail
            go_round
            case rel => exact ⟨0 + 1, by omega, by go_num⟩
            case measure => simp [intOf]
            case roundEnd =>
              rename_i h
              exact absurd (show ((34 : Int) != (c : Int)) = false from h) (by rw [en]; decide)
          · have en : ((92 : Int) != (c : Int)) = true := by rw [bne_iff_ne]; omega
            go_wp2_with fail
            go_round
            case rel => exact ⟨1 + 1, by omega, by go_num⟩
            case measure => simp [intOf]
            case roundEnd =>
              rename_i h
              exact absurd (show ((92 : Int) != (c : Int)) = false from h) (by rw [en]; decide)
          · have en : ((10 : Int) != (c : Int)) = true := by rw [bne_iff_ne]; omega
            go_wp2_with fail
            go_round
            case rel => exact ⟨2 + 1, by omega, by go_num⟩
            case measure => simp [intOf]
            case roundEnd =>
              rename_i h
              exact absurd (show ((10 : Int) != (c : Int)) = false from h) (by rw [en]; decide)
          · have en : ((13 : Int) != (c : Int)) = true := by rw [bne_iff_ne]; omega
            go_wp2_with fail
            go_round
            case rel => exact ⟨3 + 1, by omega, by go_num⟩
            case measure => simp [intOf]
            case roundEnd =>
              rename_i h
              exact absurd (show ((13 : Int) != (c : Int)) = false from h) (by rw [en]; decide)
          · have en : ((9 : Int) != (c : Int)) = true := by rw [bne_iff_ne]; omega
            go_wp2_with fail
            go_round
            case rel => exact ⟨4 + 1, by omega, by go_num⟩
            case measure => simp [intOf]
            case roundEnd =>
              rename_i h
              exact absurd (show ((9 : Int) != (c : Int)) = false from h) (by rw [en]; decide)
          · have en : ((8 : Int) != (c : Int)) = true := by rw [bne_iff_ne]; omega
            go_wp2_with fail
            go_round
            case rel => exact ⟨5 + 1, by omega, by go_num⟩
            case measure => simp [intOf]
            case roundEnd =>
              rename_i h
              exact absurd (show ((8 : Int) != (c : Int)) = false from h) (by rw [en]; decide)
          · have en : ((12 : Int) != (c : Int)) = true := by rw [bne_iff_ne]; omega
            go_wp2_with fail
            go_round
            case rel => exact ⟨6 + 1, by omega, by go_num⟩
            case measure => simp [intOf]
            case roundEnd =>
              rename_i h
              exact absurd (show ((12 : Int) != (c : Int)) = false from h) (by rw [en]; decide)
          · by_cases hm : mustB c = true
            · rcases must_cases hm with rfl | rfl | rfl | rfl | rfl | rfl | rfl | rfl | rfl | rfl | rfl | rfl | rfl | rfl | rfl | rfl | rfl | rfl | rfl | rfl | rfl | rfl | rfl | rfl | rfl | rfl | rfl | rfl | rfl | rfl | rfl | rfl | rfl | rfl | rfl
              all_goals first
                | exact absurd rfl e0 | exact absurd rfl e1 | exact absurd rfl e2 | exact absurd rfl e3 | exact absurd rfl e4 | exact absurd rfl e5 | exact absurd rfl e6
                | skip
              all_goals
                clear hm e0 e1 e2 e3 e4 e5 e6
                go_wp2_with fail
                go_quiet (fail)
                go_wp2_with fail
                go_roundw
                case rel => exact ⟨_, k + 1, rfl, by go_num, by omega, by rw [ByteArray.size_append, ByteArray.size_append, ByteArray.size_append]; refine Nat.le_trans (Nat.add_le_add_left (m := 1) (by decide +kernel) _) ?_; refine Nat.le_trans (Nat.add_le_add_right (Nat.add_le_add_left (m := 1) (by decide +kernel) _) _) ?_; show sb.size + 4 + 1 + 1 ≤ _; omega, ⟨by rw [lst_app, lst_app, lst_app, HS.out, HQ.out, List.append_assoc, List.append_assoc]; congr 1; unfold qByte; rw [HCC.out]; kernel_rfl⟩, ⟨pw_below_drewN HB.out _⟩⟩
                case measure => simp [intOf]; omega
            · have h32 : 32 ≤ c := by unfold mustB at hm; simp at hm; omega
              have h127 : ((c : Int) == 127) = false := by rw [beq_eq_false_iff_ne]; unfold mustB at hm; simp at hm; omega
              have HM := Aside0.mk hm
              have hk4 : (k : Int) + 1 ≤ (s.size : Int) := by omega
              have hsl : (Instr.slice 9 (.string s) (some (.int .i64 (k : Int))) (some (.int .i64 ((k : Int) + 1))) none).run Tryd.prog wa = .ok (.string (s.extract k (k + 1))) wa := by
                have := run_slice_string (P := Tryd.prog) wa 9 s .i64 .i64 (k : Int) ((k : Int) + 1) Tryd.underlying9 (by omega) (by omega) (by omega)
                rwa [show ((k : Int)).toNat = k by omega, show ((k : Int) + 1).toNat = k + 1 by omega] at this
              have HX := Aside0.mk (ext_one s k hlt)
              obtain ⟨e, he⟩ : ∃ e, s.extract k (k + 1) = e := ⟨_, rfl⟩
              rw [he] at hsl HX
              have hes : e.size = 1 := by rw [← size_list, HX.out]; rfl
              clear he
              clear hm e0 e1 e2 e3 e4 e5 e6
              go_wp2_with fail
              go_roundw
              case rel => exact ⟨_, k + 1, rfl, by go_num, by omega, by rw [ByteArray.size_append]; omega, ⟨by rw [lst_app, HS.out, HQ.out, HX.out]; congr 1; unfold qByte; rw [HCC.out, if_neg HM.out]⟩, HB⟩
              case measure => simp [intOf]; omega
    · have hks : k = s.size := by omega
      subst hks
      have HE : Aside0 (sb = ⟨(qL (lst s)).toArray⟩) := ⟨by
        have h1 := HS.out
        rw [List.take_of_length_le (by unfold lst; rw [size_list]; exact Nat.le_refl _)] at h1
        rw [ba_lst sb]; unfold lst; rw [h1]; rfl⟩
      go_wp2_with fail
      go_ret
      exact ⟨ret_str HE.out, HB.out⟩
end Go.Proofs.YtmenjcjpihpjjaaDoor.Tm
