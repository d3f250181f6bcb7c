/- The walk of the reference's Parse: the same plain function as the program's. -/
import Derived.Test.YtmenjcjpihpjjaaDoorPartsM
import Derived.Test.YtmenjcjpihpjjaaDoorCopy
set_option linter.unusedSimpArgs false
set_option linter.unusedVariables false
namespace Go.Proofs.YtmenjcjpihpjjaaDoor.Fb
open Go Go.RowKit Go.Proofs.YtmenjcjpihpjjaaDoorW.PrintWords Go.Proofs.YtmenjcjpihpjjaaDoorW.PrintLast Go.Proofs.YtmenjcjpihpjjaaDoorW.PrintMore
attribute [local go_sem] max2_int min2_int max_two min_two

/-- Is a sign ahead? -/
def hasSign : List UInt8 → Bool
  | [] => false
  | c :: _ => decide (c = 43) || decide (c = 45)
def sgW (m : Bool) : Nat := if m = true then 13830554455654793216 else 4607182418800017408
def sgI (m : Bool) : Int := if m = true then -1 else 1
theorem sgI_val (m : Bool) : floatToIntVal .f64 (sgW m) .i64 = some (sgI m) := by cases m <;> decide +kernel
/-- With a sign. -/
def sgN (m : Bool) (a : Nat) : Nat := if m = true then negF a else a
theorem inf_sg (m : Bool) (w : World) : Calls Tryd.prog 36 #[.int .i64 (sgI m)] w fun e w' => e = .returned (.float .f64 (sgN m 9218868437227405312)) ∧ w = w' := by
  have h := inf_any (sgI m) w
  refine h.mono ?_
  rintro e w' ⟨rfl, rfl⟩
  cases m
  · exact ⟨ret_float (by decide), rfl⟩
  · exact ⟨ret_float (by decide), rfl⟩
theorem copysign_sg (m : Bool) (a : Nat) (h : a ≤ 9218868437227405312) (w : World) :
    Calls Tryd.prog 39 #[.float .f64 a, .float .f64 (sgW m)] w fun e w' => e = .returned (.float .f64 (sgN m a)) ∧ w = w' := by
  cases m
  · exact copysign_pos a h w
  · exact copysign_neg a h w
theorem sign_case (l : List UInt8) : (l = [] ∧ signR l = (false, [])) ∨ (∃ t, l = 45 :: t ∧ signR l = (true, t)) ∨ (∃ t, l = 43 :: t ∧ signR l = (false, t)) ∨ (∃ c t, c ≠ 43 ∧ c ≠ 45 ∧ l = c :: t ∧ signR l = (false, c :: t)) := by
  rcases l with _ | ⟨c, u⟩
  · exact .inl ⟨rfl, rfl⟩
  · by_cases g1 : c = 45
    · exact .inr (.inl ⟨u, by rw [g1], by rw [signR, if_pos g1]⟩)
    · by_cases g2 : c = 43
      · exact .inr (.inr (.inl ⟨u, by rw [g2], by rw [signR, if_neg g1, if_pos g2]⟩))
      · exact .inr (.inr (.inr ⟨c, u, g2, g1, rfl, by rw [signR, if_neg g1, if_neg g2]⟩))
def Cut2 (w : World) (m : Bool) (q : List UInt8) (s0 s4 : Value) (wx : World) : Prop :=
  ∃ rb : ByteArray, s0 = .string rb ∧ s4 = .float .f64 (sgW m) ∧ rb.data.toList = q ∧ w = wx
set_option maxRecDepth 100000 in
set_option maxHeartbeats 4000000 in
theorem refParse_any (s : ByteArray) (hs : s.size ≤ 200) (w : World) :
    Calls Tryd.prog 19 #[.string s] w (PlainP w (parseL s.data.toList)) := by
  have HB0 := Aside0.mk (Below.refl w.heap.size w)
  by_cases hN : s.data.toList = [78, 97, 78]
  · have HV : Aside0 (parseL s.data.toList = some 9221120237041090561) := ⟨by unfold parseL; rw [if_pos hN]⟩
    have h1 : (s.toList == [78, 97, 78]) = true := by rw [bytes_toList]; simpa using hN
    clear hN
    go_enter Tryd.func19, Tryd.ntmps19
    go_wp2_with (first
      | (go_at_call 35; (with_reducible refine (nan_any _).mono ?_); rintro e w1 ⟨rfl, rfl⟩))
    go_ret2
    exact parse_ret (b := true) HV.out (by simp) HB0.out
  · have hV : parseL s.data.toList = (if (signL s.data.toList).1 = [73, 78, 70] then some 9218868437227405312 else plainL (signL s.data.toList).1).map fun f => if (signL s.data.toList).2 = true then negF f else f := by unfold parseL; rw [if_neg hN]
    have h1 : (s.toList == [78, 97, 78]) = false := by rw [bytes_toList]; simpa using hN
    have hsl := signL_len s.data.toList
    rw [toList_size] at hsl
    clear hN
    rw [sign_eq] at hV hsl
    obtain ⟨m, q, hmq⟩ : ∃ m q, signR s.data.toList = (m, q) := ⟨_, _, rfl⟩
    rw [hmq] at hV hsl
    simp only at hV hsl
    have HV := Aside0.mk hV
    have HMQ := Aside0.mk hmq
    clear hV hmq
    go_enter Tryd.func19, Tryd.ntmps19
    go_upto_region 4 with (fail)
    go_cut [28] (fun s28 wx => s28 = .bool (hasSign s.data.toList) ∧ w = wx)
    case first =>
      rcases sign_case s.data.toList with ⟨hl, _⟩ | ⟨t, hl, _⟩ | ⟨t, hl, _⟩ | ⟨c, t, g1, g2, hl, _⟩
      · obtain ⟨e1, e2⟩ := empty_of hl
        have HS : Aside0 (hasSign s.data.toList = false) := ⟨by rw [hl]; rfl⟩
        clear hl
        go_wp2_with fail
        go_meet
        exact ⟨by rw [HS.out], rfl⟩
      · obtain ⟨e1, e2, e3', e4⟩ := cons_of hl
        have e5 : ((s[0].toNat : Int) == 43) = false := by rw [e3' e2]; rfl
        have e6 : ((s[0].toNat : Int) == 45) = true := by rw [e3' e2]; rfl
        have HS : Aside0 (hasSign s.data.toList = true) := ⟨by rw [hl]; rfl⟩
        clear hl e3' e4
        go_wp2_with fail
        go_meet
        exact ⟨by rw [HS.out], rfl⟩
      · obtain ⟨e1, e2, e3', e4⟩ := cons_of hl
        have e5 : ((s[0].toNat : Int) == 43) = true := by rw [e3' e2]; rfl
        have HS : Aside0 (hasSign s.data.toList = true) := ⟨by rw [hl]; rfl⟩
        clear hl e3' e4
        go_wp2_with fail
        go_meet
        exact ⟨by rw [HS.out], rfl⟩
      · obtain ⟨e1, e2, e3', e4⟩ := cons_of hl
        have e5 : ((s[0].toNat : Int) == 43) = false := by rw [e3' e2]; exact ne_of g1
        have e6 : ((s[0].toNat : Int) == 45) = false := by rw [e3' e2]; exact ne_of g2
        have HS : Aside0 (hasSign s.data.toList = false) := ⟨by rw [hl]; simp [hasSign, g1, g2]⟩
        clear hl e3' e4 g1 g2
        go_wp2_with fail
        go_meet
        exact ⟨by rw [HS.out], rfl⟩
    case rest =>
      obtain ⟨rfl, rfl⟩ := hcut
      go_upto_if 28 with (fail)
      go_cut [0, 4] (Cut2 w m q)
      case first =>
        have hmq := HMQ.out
        rcases sign_case s.data.toList with ⟨hl, hr⟩ | ⟨t, hl, hr⟩ | ⟨t, hl, hr⟩ | ⟨c, t, g1, g2, hl, hr⟩
        · rw [hr] at hmq
          injection hmq with m1 m2
          subst m1 m2
          rw [hl, hasSign]
          have HL := Aside0.mk hl
          clear hl hr
          go_wp2_with fail
          go_meet
          exact ⟨_, rfl, rfl, HL.out, rfl⟩
        · rw [hr] at hmq
          injection hmq with m1 m2
          subst m1 m2
          have hh : hasSign s.data.toList = true := by rw [hl]; rfl
          obtain ⟨e1, e2, e3', e4⟩ := cons_of hl
          have e6 : ((s[0].toNat : Int) == 45) = true := by rw [e3' e2]; rfl
          rw [hh]
          have HL := Aside0.mk e4
          clear hl hr e3' e4 hh
          go_wp2_with fail
          go_meet
          exact ⟨_, rfl, rfl, HL.out, rfl⟩
        · rw [hr] at hmq
          injection hmq with m1 m2
          subst m1 m2
          have hh : hasSign s.data.toList = true := by rw [hl]; rfl
          obtain ⟨e1, e2, e3', e4⟩ := cons_of hl
          have e6 : ((s[0].toNat : Int) == 45) = false := by rw [e3' e2]; rfl
          rw [hh]
          have HL := Aside0.mk e4
          clear hl hr e3' e4 hh
          go_wp2_with fail
          go_meet
          exact ⟨_, rfl, rfl, HL.out, rfl⟩
        · rw [hr] at hmq
          injection hmq with m1 m2
          subst m1 m2
          have hh : hasSign s.data.toList = false := by rw [hl]; simp [hasSign, g1, g2]
          rw [hh]
          have HL := Aside0.mk hl
          clear hl hr hh g1 g2
          go_wp2_with fail
          go_meet
          exact ⟨_, rfl, rfl, HL.out, rfl⟩
      case rest =>
        obtain ⟨rb, rfl, rfl, hq, rfl⟩ := hcut
        subst hq
        rw [toList_size] at hsl
        have hz : rb.size ≤ 200 := by omega
        have kc := fun W => run_convert_float_int (P := Tryd.prog) W 40 3 .f64 .i64 (sgW m) (sgI m) (by kernel_rfl) Tryd.underlying3 (sgI_val m)
        have CI := Aside0.mk (inf_sg m)
        by_cases hI : rb.data.toList = [73, 78, 70]
        · have h2 : (rb.toList == [73, 78, 70]) = true := by rw [bytes_toList]; simpa using hI
          have hv := HV.out
          rw [if_pos hI] at hv
          have HV := Aside0.mk hv
          clear hv hI
          go_wp2_with fail
          refine (CI.out _).mono ?_
          rintro e w1 ⟨rfl, rfl⟩
          go_wp2_with fail
          go_returns
          exact parse_ret (b := true) (by rw [HV.out]; rfl) (by simp) HB0.out
        · have h2 : (rb.toList == [73, 78, 70]) = false := by rw [bytes_toList]; simpa using hI
          have hv := HV.out
          rw [if_neg hI, plain_parts] at hv
          have CP := Aside0.mk (parts_any rb hz)
          clear hI kc CI
          rcases hp : partsL rb.data.toList with _ | ⟨M, b, x, y⟩
          · rw [hp] at CP hv
            have HV := Aside0.mk hv
            clear hv hp
            go_wp2_with fail
            refine (CP.out _).mono ?_
            rintro e w1 ⟨rfl, rfl⟩
            go_wp2_with fail
            go_returns
            exact parse_ret (b := false) HV.out (by simp) HB0.out
          · obtain ⟨a1, a2, a3, a4, a5⟩ := parts_facts hp
            rw [toList_size] at a3 a4 a5
            rw [hp] at CP hv
            simp only at hv
            clear hp
            obtain ⟨mb, hmb⟩ : ∃ mb : ByteArray, mb = ⟨M.toArray⟩ := ⟨_, rfl⟩
            obtain ⟨xb, hxb⟩ : ∃ xb : ByteArray, xb = ⟨x.toArray⟩ := ⟨_, rfl⟩
            have hml : mb.data.toList = M := by rw [hmb]
            have hxl : xb.data.toList = x := by rw [hxb]
            have hms : mb.size = M.length := by rw [← toList_size, hml]
            have hxs : xb.size = x.length := by rw [← toList_size, hxl]
            have HM := Aside0.mk hmb.symm
            have HX := Aside0.mk hxb.symm
            rw [← hms, ← hxs] at hv
            have hb200 : b ≤ 200 := by omega
            clear hmb hxb a3 a4 a5
            by_cases l1 : mb.size ≤ 15
            · by_cases l2 : xb.size ≤ 3
              · obtain ⟨v1, v2⟩ := wholeI_small M a1 (by omega)
                obtain ⟨E', hE'⟩ : ∃ E', E' = (if y = true then -wholeI x else wholeI x) := ⟨_, rfl⟩
                obtain ⟨b1, b2⟩ := wholeI_bound x a2
                have b3 : (10 : Int) ^ x.length ≤ 10 ^ 3 := by
                  have := Nat.pow_le_pow_right (n := 10) (by decide) (show x.length ≤ 3 by omega)
                  exact_mod_cast this
                have b4 : -1000 < E' ∧ E' < 1000 := by rw [hE']; exact neg_if b1 b2 (by omega)
                have CM := Aside0.mk (refWhole_any mb l1 (by rw [hml]; exact a1))
                have CX := Aside0.mk (refWhole_any xb (by omega) (by rw [hxl]; exact a2))
                rw [hml] at CM
                rw [hxl] at CX
                rw [← hE'] at hv
                obtain ⟨N, hN⟩ : ∃ N, N = E' - (b : Int) := ⟨_, rfl⟩
                rw [← hN] at hv
                obtain ⟨E, hE⟩ : ∃ E, E = wholeI x := ⟨_, rfl⟩
                have b5 : E < 1000 := by rw [hE]; omega
                rw [← hE] at CX hE' b1
                have HE' := Aside0.mk hE'
                have HN := Aside0.mk hN
                have n1 : -1300 ≤ N := by omega
                have n2 : N ≤ 1300 := by omega
                obtain ⟨b6, b7⟩ := b4
                have HVV := Aside0.mk hv
                generalize wholeI M = Mv at *
                clear hv hE hE' hN b2 b3 hms hxs hml hxl a1 a2
                go_wp2_with fail
                refine (CP.out _).mono ?_
                rintro e w1 ⟨rfl, rfl⟩
                simp only []
                rw [HM.out, HX.out]
                go_wp2_with fail
                refine (CX.out _).mono ?_
                rintro e w1 ⟨rfl, rfl⟩
                go_upto_if 61 with (fail)
                go_cut [10] (fun s10 wx => s10 = .int .i64 E' ∧ w = wx)
                case first =>
                  cases y
                  · go_wp2_with fail
                    go_meet
                    exact ⟨by rw [HE'.out]; rfl, rfl⟩
                  · go_wp2_with fail
                    go_meet
                    exact ⟨by rw [HE'.out]; rfl, rfl⟩
                case rest =>
                  obtain ⟨rfl, rfl⟩ := hcut
                  go_upto_region 16 with (fail)
                  go_cut [10] (fun s10 wx => s10 = .int .i64 N ∧ w = wx)
                  case first =>
                    go_wp2_with fail
                    go_meet
                    exact ⟨by rw [HN.out], rfl⟩
                  case rest =>
                    obtain ⟨rfl, rfl⟩ := hcut
                    by_cases hr : -22 ≤ N ∧ N ≤ 22
                    · obtain ⟨r, r1, r2⟩ := scale_some Mv N v1 v2 hr.1 hr.2
                      have hv := HVV.out
                      rw [if_pos ⟨l1, l2, hr⟩, r1] at hv
                      have HV := Aside0.mk hv
                      have CS := Aside0.mk (copysign_sg m r r2)
                      obtain ⟨hr1, hr2⟩ := hr
                      clear hv
                      obtain ⟨K, hK⟩ : ∃ K : Nat, K = N.natAbs := ⟨_, rfl⟩
                      have hm2 : Builtin.max2 (.int .i64 N) (.int .i64 (-N)) = pure (.int .i64 K) := by
                        rw [max2_int]
                        have : (if N < -N then -N else N) = (K : Int) := by split <;> omega
                        rw [this]
                      have hK22 : K ≤ 22 := by omega
                      unfold scaleF at r1
                      rw [← hK] at r1
                      clear hK
                      have hsc : (N < 0 ∧ Aside0 (∀ W, (binOp .quo 40 (.float .f64 (floatOfInt .f64 Mv)) (.float .f64 (pw K))).run Tryd.prog W = .ok (.float .f64 r) W)) ∨ (¬ N < 0 ∧ Aside0 (∀ W, (binOp .mul 40 (.float .f64 (floatOfInt .f64 Mv)) (.float .f64 (pw K))).run Tryd.prog W = .ok (.float .f64 r) W)) := by
                        by_cases c : N < 0
                        · rw [if_pos c] at r1
                          exact .inl ⟨c, ⟨fun W => run_float_arith W .quo 40 .f64 _ _ r r1⟩⟩
                        · rw [if_neg c] at r1
                          exact .inr ⟨c, ⟨fun W => run_float_arith W .mul 40 .f64 _ _ r r1⟩⟩
                      clear r1
                      go_wp2_with fail
                      go_loop [11, 12] (fun x y => ∃ i : Nat, x = .float .f64 (pw i) ∧ y = .int .i64 i ∧ i ≤ K) (fun _ y => K - (intOf y).toNat)
                      case atStart => exact ⟨0, rfl, rfl, by omega⟩
                      case round =>
                        obtain ⟨i, rfl, rfl, hi⟩ := hrel
                        by_cases hlt : i < K
                        · have km := fun W => run_float_arith (P := Tryd.prog) W .mul 40 .f64 (pw i) 4621819117588971520 (pw (i + 1)) (pw_step i (by omega))
                          go_wp2_with fail
                          go_round
                          case rel => exact ⟨i + 1, rfl, by go_num, by omega⟩
                          case measure => simp [intOf]; omega
                        · have hin : i = K := by omega
                          subst hin
                          go_wp2_with fail
                          refine (CM.out _).mono ?_
                          rintro e w1 ⟨rfl, rfl⟩
                          rcases hsc with ⟨hc, HR⟩ | ⟨hc, HR⟩
                          all_goals
                            have km := HR.out
                            go_wp2_with fail
                            refine (CS.out _).mono ?_
                            rintro e w1 ⟨rfl, rfl⟩
                            go_wp2_with fail
                            go_returns
                            exact parse_ret (b := true) (by rw [HV.out]; rfl) (by simp) HB0.out
                    · have hv := HVV.out
                      rw [if_neg (fun h => hr h.2.2)] at hv
                      have HV := Aside0.mk hv
                      have hr' : N < -22 ∨ (-22 ≤ N ∧ 22 < N) := by omega
                      clear hv hr
                      rcases hr' with hr | ⟨hr, hr2⟩
                      all_goals
                        go_wp2_with fail
                        go_returns
                        exact parse_ret (b := false) HV.out (by simp) HB0.out
              · rw [if_neg (fun h => l2 h.2.1)] at hv
                have HV := Aside0.mk hv
                clear hv hms hxs hml hxl
                have l3 : 3 < xb.size := by omega
                go_wp2_with fail
                refine (CP.out _).mono ?_
                rintro e w1 ⟨rfl, rfl⟩
                simp only []
                rw [HM.out, HX.out]
                go_wp2_with fail
                go_returns
                exact parse_ret (b := false) HV.out (by simp) HB0.out
            · rw [if_neg (fun h => l1 h.1)] at hv
              have HV := Aside0.mk hv
              clear hv hms hxs hml hxl
              have l3 : 15 < mb.size := by omega
              go_wp2_with fail
              refine (CP.out _).mono ?_
              rintro e w1 ⟨rfl, rfl⟩
              simp only []
              rw [HM.out, HX.out]
              go_wp2_with fail
              go_returns
              exact parse_ret (b := false) HV.out (by simp) HB0.out
end Go.Proofs.YtmenjcjpihpjjaaDoor.Fb
