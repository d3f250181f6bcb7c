/- The reference's parts: what it finds in a text, as a plain function, and its walk. -/
import Derived.Test.YtmenjcjpihpjjaaDoorParseb
import Derived.Handy
set_option linter.unusedSimpArgs false
set_option linter.unusedVariables false
namespace Go.Proofs.YtmenjcjpihpjjaaDoor.Fb
open Go Go.RowKit Go.Proofs.YtmenjcjpihpjjaaDoorW.PrintWords Go.Proofs.YtmenjcjpihpjjaaDoorW.PrintLast Go.Proofs.YtmenjcjpihpjjaaDoorW.PrintMore
attribute [local go_sem] max2_int min2_int max_two min_two

/-- The digits behind the point, if there is one: how many, these, the rest. -/
def pointR : List UInt8 → Nat × List UInt8 × List UInt8
  | [] => (0, [], [])
  | c :: t => if c = 46 then (digN t, t.take (digN t), t.drop (digN t)) else (0, [], c :: t)
/-- A sign ahead: is it a minus; what stands behind it. -/
def signR : List UInt8 → Bool × List UInt8
  | [] => (false, [])
  | c :: t => if c = 45 then (true, t) else if c = 43 then (false, t) else (false, c :: t)
/-- What stands behind the digits: the e's digits, and whether it is below nought. -/
def expR : List UInt8 → Option (List UInt8 × Bool)
  | [] => some ([], false)
  | c :: t => if c = 101 ∨ c = 69 then (if (signR t).2 = [] ∨ digN (signR t).2 ≠ (signR t).2.length then none else some ((signR t).2, (signR t).1)) else none
def partsL (l : List UInt8) : Option (List UInt8 × Nat × List UInt8 × Bool) :=
  if digN l + (pointR (l.drop (digN l))).1 = 0 then none else
  (expR (pointR (l.drop (digN l))).2.2).map fun x => (l.take (digN l) ++ (pointR (l.drop (digN l))).2.1, (pointR (l.drop (digN l))).1, x.1, x.2)
def PartsP (w : World) (v : Option (List UInt8 × Nat × List UInt8 × Bool)) (e : Ending) (w' : World) : Prop :=
  e = .returned (match v with
    | none => .tuple #[.string ⟨#[]⟩, .int .i64 0, .string ⟨#[]⟩, .bool false, .bool false]
    | some (m, b, x, y) => .tuple #[.string ⟨m.toArray⟩, .int .i64 b, .string ⟨x.toArray⟩, .bool y, .bool true]) ∧ w = w'
theorem of_list {b : ByteArray} {l : List UInt8} (h : b.data.toList = l) : b = ⟨l.toArray⟩ := by
  subst h; cases b; simp
theorem parts_none {w : World} {v : Option (List UInt8 × Nat × List UInt8 × Bool)} (h : v = none) : PartsP w v (.returned (.tuple #[.string ⟨#[]⟩, .int .i64 0, .string ⟨#[]⟩, .bool false, .bool false])) w := by
  subst h; exact ⟨rfl, rfl⟩
theorem parts_some {w : World} {v : Option (List UInt8 × Nat × List UInt8 × Bool)} {m x : List UInt8} {b : Nat} {y : Bool} {mb xb : ByteArray} (h : v = some (m, b, x, y)) (h1 : mb.data.toList = m) (h2 : xb.data.toList = x) :
    PartsP w v (.returned (.tuple #[.string mb, .int .i64 b, .string xb, .bool y, .bool true])) w := by
  subst h; rw [of_list h1, of_list h2]; exact ⟨rfl, rfl⟩
theorem empty_of {b : ByteArray} (h : b.data.toList = []) : b.toList.isEmpty = true ∧ b.size = 0 := by
  refine ⟨by rw [bytes_toList, h]; rfl, by rw [← toList_size, h]; rfl⟩
theorem cons_of {b : ByteArray} {c : UInt8} {t : List UInt8} (h : b.data.toList = c :: t) : b.toList.isEmpty = false ∧ 0 < b.size ∧ (∀ h0 : 0 < b.size, b[0] = c) ∧ (b.extract 1 b.size).data.toList = t := by
  refine ⟨by rw [bytes_toList, h]; rfl, by rw [← toList_size, h]; simp, fun h0 => head_at b h h0, ?_⟩
  rw [extract_drop, h, List.drop_one, List.tail_cons]
theorem ne_of {c d : UInt8} (h : c ≠ d) : ((c.toNat : Int) == (d.toNat : Int)) = false := by
  rw [beq_eq_false_iff_ne]
  intro e
  apply h
  apply UInt8.toNat_inj.1
  omega
theorem bne_of {c d : UInt8} (h : c ≠ d) : ((c.toNat : Int) != (d.toNat : Int)) = true := by
  rw [bne, ne_of h]; rfl
theorem bne_no {c d : UInt8} (h : c = d) : ((c.toNat : Int) != (d.toNat : Int)) = false := by rw [h]; simp
theorem eq_of {c d : UInt8} (h : c = d) : ((c.toNat : Int) == (d.toNat : Int)) = true := by rw [h]; simp
theorem run_cut {P : Program} (t : TypeId) (hu : P.underlying t = some .string) (b : ByteArray) (k : Nat) (h : 1 + k ≤ b.size) (W : World) :
    (Instr.slice t (.string b) (some (.int .i64 1)) (some (.int .i64 (1 + (k : Int)))) none).run P W = .ok (.string (b.extract 1 (1 + k))) W := by
  have := run_slice_string (P := P) W t b .i64 .i64 1 (1 + (k : Int)) hu (by omega) (by omega) (by omega)
  rw [show (1 + (k : Int)).toNat = 1 + k by omega] at this
  exact this
theorem pointR_len (l : List UInt8) : (pointR l).2.2.length ≤ l.length := by
  rcases l with _ | ⟨c, t⟩
  · simp [pointR]
  · rw [pointR]; split <;> simp; omega
def Cut1 (w : World) (b : Nat) (m r : List UInt8) (s8 s9 s10 : Value) (wx : World) : Prop :=
  ∃ mb rb : ByteArray, s8 = .int .i64 b ∧ s9 = .string mb ∧ s10 = .string rb ∧ mb.data.toList = m ∧ rb.data.toList = r ∧ w = wx
set_option maxRecDepth 100000 in
set_option maxHeartbeats 4000000 in
theorem parts_any (s : ByteArray) (hs : s.size ≤ 200) (w : World) :
    Calls Tryd.prog 37 #[.string s] w (PartsP w (partsL s.data.toList)) := by
  obtain ⟨n, hn⟩ : ∃ n, n = digN s.data.toList := ⟨_, rfl⟩
  have hns : n ≤ s.size := by have := digN_le s.data.toList; rw [hn, ← toList_size]; exact this
  have HN := Aside0.mk hn.symm
  have hv := (show partsL s.data.toList = if n + (pointR (s.data.toList.drop n)).1 = 0 then none else
    (expR (pointR (s.data.toList.drop n)).2.2).map fun x => (s.data.toList.take n ++ (pointR (s.data.toList.drop n)).2.1, (pointR (s.data.toList.drop n)).1, x.1, x.2) by rw [hn]; rfl)
  clear hn
  have HT := Aside0.mk (extract_take s n)
  have HD := Aside0.mk (extract_drop s n)
  have CD := Aside0.mk (refDigits_any s (by omega))
  have hz : (s.extract n s.size).size ≤ 200 := by simp; omega
  have go : ∃ (b : Nat) (m r : List UInt8), pointR (s.data.toList.drop n) = (b, m, r) := ⟨_, _, _, rfl⟩
  obtain ⟨b, m, r, hp⟩ := go
  rw [hp] at hv
  simp only at hv
  have HV := Aside0.mk hv
  have HP := Aside0.mk hp
  have HLN : Aside0 (r.length ≤ 200) := ⟨by
    have h1 := pointR_len (s.data.toList.drop n)
    rw [hp, List.length_drop, toList_size] at h1
    simp only at h1
    omega⟩
  clear hv hp
  -- the three ways up to the test of the digits' count
  have hcase : s.data.toList.drop n = [] ∨ (∃ t, s.data.toList.drop n = 46 :: t) ∨ (∃ c t, c ≠ 46 ∧ s.data.toList.drop n = c :: t) := by
    rcases s.data.toList.drop n with _ | ⟨c, t⟩
    · exact .inl rfl
    · by_cases h : c = 46
      · exact .inr (.inl ⟨t, by rw [h]⟩)
      · exact .inr (.inr ⟨c, t, h, rfl⟩)
  rcases hcase with hl | ⟨t, hl⟩ | ⟨c, t, hc, hl⟩
  case' inl =>
    have hpr := HP.out
    rw [hl] at hpr
    injection hpr with p1 p2
    injection p2 with p2 p3
    subst p2 p3
    have hb : b ≤ 200 := by omega
    have HP1 := Aside0.mk p1
    clear p1
    have hrl : (s.extract n s.size).data.toList = [] := HD.out.trans hl
    have HRL := Aside0.mk hrl
    have f1 := (empty_of hrl).1
    clear hrl hl
    go_enter Tryd.func37, Tryd.ntmps37
    go_wp2_with fail
    refine (CD.out _).mono ?_
    rintro e w1 ⟨rfl, rfl⟩
    rw [HN.out]
    go_upto_region 5 with (fail)
    generalize s.extract n s.size = rb at *
    go_upto_if 26 with (fail)
    go_cut [8, 9, 10] (Cut1 w b (s.data.toList.take n ++ []) [])
    case first =>
      go_wp2_with fail
      go_meet
      exact ⟨_, _, by rw [← HP1.out]; rfl, rfl, rfl, by rw [HT.out, List.append_nil], HRL.out, rfl⟩
  case' inr.inl =>
    have hpr := HP.out
    rw [hl, pointR, if_pos rfl] at hpr
    injection hpr with p1 p2
    injection p2 with p2 p3
    subst p2 p3
    have hrl : (s.extract n s.size).data.toList = 46 :: t := HD.out.trans hl
    clear hl
    go_enter Tryd.func37, Tryd.ntmps37
    go_wp2_with fail
    refine (CD.out _).mono ?_
    rintro e w1 ⟨rfl, rfl⟩
    rw [HN.out]
    go_upto_region 5 with (fail)
    generalize s.extract n s.size = rb at *
    obtain ⟨f1, f2, f3, f4⟩ := cons_of hrl
    have f5 : ((rb[0].toNat : Int) == 46) = true := by rw [f3 f2]; rfl
    have HR := Aside0.mk hrl
    clear f3 hrl
    have CD2 := Aside0.mk (refDigits_any (rb.extract 1 rb.size) (by simp; omega))
    rw [f4, p1] at CD2
    have hk1 : 1 + b ≤ rb.size := by
      have := digN_le t
      have h2 := toList_size (rb.extract 1 rb.size)
      rw [f4] at h2
      simp at h2
      omega
    have HM := Aside0.mk (show (s.extract 0 n ++ rb.extract 1 (1 + b)).data.toList = s.data.toList.take n ++ t.take (digN t) by
      rw [ByteArray.data_append, Array.toList_append, HT.out, Lib.extract_data, HR.out, p1, List.take_drop, List.drop_one, show 1 + (1 + b - 1) = b + 1 by omega, List.take_succ_cons, List.tail_cons])
    have HR2 := Aside0.mk (show (rb.extract (1 + b) rb.size).data.toList = t.drop (digN t) by
      rw [extract_drop, HR.out, p1, Nat.add_comm, List.drop_succ_cons])
    have hb : b ≤ 200 := by omega
    clear f4 p1
    have ks := fun W => run_cut (P := Tryd.prog) 9 Tryd.underlying9 rb b hk1 W
    go_upto_if 26 with (fail)
    go_cut [8, 9, 10] (Cut1 w b (s.data.toList.take n ++ t.take (digN t)) (t.drop (digN t)))
    case first =>
      go_wp2_with fail
      refine (CD2.out _).mono ?_
      rintro e w1 ⟨rfl, rfl⟩
      go_wp2_with fail
      go_meet
      exact ⟨_, _, rfl, rfl, rfl, HM.out, HR2.out, rfl⟩
  case' inr.inr =>
    have hpr := HP.out
    rw [hl, pointR, if_neg hc] at hpr
    injection hpr with p1 p2
    injection p2 with p2 p3
    subst p2 p3
    have hb : b ≤ 200 := by omega
    have HP1 := Aside0.mk p1
    clear p1
    have hrl : (s.extract n s.size).data.toList = c :: t := HD.out.trans hl
    clear hl
    go_enter Tryd.func37, Tryd.ntmps37
    go_wp2_with fail
    refine (CD.out _).mono ?_
    rintro e w1 ⟨rfl, rfl⟩
    rw [HN.out]
    go_upto_region 5 with (fail)
    generalize s.extract n s.size = rb at *
    obtain ⟨f1, f2, f3, f4⟩ := cons_of hrl
    have f5 : ((rb[0].toNat : Int) == 46) = false := by rw [f3 f2]; exact ne_of hc
    have HR := Aside0.mk hrl
    clear f3 f4 hrl hc
    go_upto_if 26 with (fail)
    go_cut [8, 9, 10] (Cut1 w b (s.data.toList.take n ++ []) (c :: t))
    case first =>
      go_wp2_with fail
      go_meet
      exact ⟨_, _, by rw [← HP1.out]; rfl, rfl, rfl, by rw [HT.out, List.append_nil], HR.out, rfl⟩
  all_goals
    obtain ⟨mb, rb2, rfl, rfl, rfl, hmb, hrb, rfl⟩ := hcut
    have hv := HV.out
    rw [← hmb, ← hrb] at hv
    have hz2 : rb2.size ≤ 200 := by rw [← toList_size, hrb]; exact HLN.out
    clear HV hmb hrb
    by_cases h0 : n + b = 0
    · rw [if_pos h0] at hv
      have HV := Aside0.mk hv
      have f0 : ((n : Int) + (b : Int) == 0) = true := by rw [beq_iff_eq]; omega
      clear hv h0
      go_wp2_with fail
      go_returns
      exact parts_none HV.out
    · rw [if_neg h0] at hv
      have f0 : ((n : Int) + (b : Int) == 0) = false := by rw [beq_eq_false_iff_ne]; omega
      clear h0
      rcases hr : rb2.data.toList with _ | ⟨c2, t2⟩
      · obtain ⟨f1, f2⟩ := empty_of hr
        rw [hr] at hv
        have HV := Aside0.mk hv
        clear hv hr f2
        go_wp2_with fail
        go_returns
        exact parts_some HV.out rfl rfl
      · obtain ⟨f1, f2, f3', f4⟩ := cons_of hr
        rw [hr, expR] at hv
        have f3 := f3' f2
        have HR4 := Aside0.mk f4
        clear f4 hr f3'
        by_cases hc : c2 = 101 ∨ c2 = 69
        · rw [if_pos hc] at hv
          have he : (((rb2[0].toNat : Int) != 101) = false) ∨ (((rb2[0].toNat : Int) != 101) = true ∧ ((rb2[0].toNat : Int) != 69) = false) := by
            rw [f3]
            by_cases h : c2 = 101
            · exact .inl (bne_no h)
            · exact .inr ⟨bne_of h, bne_no (hc.resolve_left h)⟩
          clear hc f3
          have hz3 : (rb2.extract 1 rb2.size).size ≤ 200 := by simp; omega
          obtain ⟨q, below, hq⟩ : ∃ q below, signR t2 = (below, q) := ⟨_, _, rfl⟩
          rw [hq] at hv
          simp only at hv
          have HV := Aside0.mk hv
          clear hv
          rcases he with he | ⟨he, he2⟩
          all_goals
            go_upto_region 16 with (fail)
            generalize rb2.extract 1 rb2.size = rb3 at *
            have h3 := HR4.out
            clear HR4
            have hs4 : t2 = [] ∨ (∃ u, t2 = 45 :: u) ∨ (∃ u, t2 = 43 :: u) ∨ (∃ c u, c ≠ 45 ∧ c ≠ 43 ∧ t2 = c :: u) := by
              rcases t2 with _ | ⟨c, u⟩
              · exact .inl rfl
              · by_cases g1 : c = 45
                · exact .inr (.inl ⟨u, by rw [g1]⟩)
                · by_cases g2 : c = 43
                  · exact .inr (.inr (.inl ⟨u, by rw [g2]⟩))
                  · exact .inr (.inr (.inr ⟨c, u, g1, g2, rfl⟩))
            rcases hs4 with rfl | ⟨u, rfl⟩ | ⟨u, rfl⟩ | ⟨c3, u, g1, g2, rfl⟩
            · rw [signR] at hq
              injection hq with q1 q2
              subst q1 q2
              obtain ⟨e1, e2⟩ := empty_of h3
              rw [if_pos (.inl rfl)] at HV
              clear h3
              go_wp2_with fail
              go_returns
              exact parts_none HV.out
            · rw [signR, if_pos rfl] at hq
              injection hq with q1 q2
              subst q1 q2
              obtain ⟨e1, e2, e3', e4⟩ := cons_of h3
              have e5 : ((rb3[0].toNat : Int) == 45) = true := by rw [e3' e2]; rfl
              have e6 : ((rb3[0].toNat : Int) == 43) = false := by rw [e3' e2]; rfl
              have HE4 := Aside0.mk e4
              have hz4 : (rb3.extract 1 rb3.size).size ≤ 200 := by simp; omega
              clear h3 e3' e4
              go_upto_region 19 with (fail)
              generalize rb3.extract 1 rb3.size = rb4 at *
              have hv := HV.out
              rw [← HE4.out] at hv
              have CD4 := Aside0.mk (refDigits_any rb4 (by omega))
              obtain ⟨k4, hk4⟩ : ∃ k4, k4 = digN rb4.data.toList := ⟨_, rfl⟩
              have hk4b : k4 ≤ rb4.size := by have := digN_le rb4.data.toList; rw [hk4, ← toList_size]; exact this
              rw [← hk4] at CD4 hv
              rw [toList_size] at hv
              clear hk4 HV HE4
              by_cases t1 : rb4.data.toList = []
              · rw [if_pos (.inl t1)] at hv
                have HV := Aside0.mk hv
                obtain ⟨x1, x2⟩ := empty_of t1
                clear hv t1 x2
                go_wp2_with fail
                go_returns
                exact parts_none HV.out
              · have x1 : rb4.toList.isEmpty = false := by rw [bytes_toList]; simpa using t1
                by_cases t2 : k4 = rb4.size
                · rw [if_neg (fun h => h.elim t1 (fun h => h t2))] at hv
                  have HV := Aside0.mk hv
                  have x2 : ((k4 : Int) != (rb4.size : Int)) = false := by simp [t2]
                  clear hv t1 t2
                  go_wp2_with fail
                  refine (CD4.out _).mono ?_
                  rintro e w1 ⟨rfl, rfl⟩
                  go_wp2_with fail
                  go_returns
                  exact parts_some HV.out rfl rfl
                · rw [if_pos (.inr t2)] at hv
                  have HV := Aside0.mk hv
                  have x2 : ((k4 : Int) != (rb4.size : Int)) = true := by rw [bne_iff_ne]; omega
                  clear hv t1 t2
                  go_wp2_with fail
                  refine (CD4.out _).mono ?_
                  rintro e w1 ⟨rfl, rfl⟩
                  go_wp2_with fail
                  go_returns
                  exact parts_none HV.out
            · rw [signR, if_neg (by decide), if_pos rfl] at hq
              injection hq with q1 q2
              subst q1 q2
              obtain ⟨e1, e2, e3', e4⟩ := cons_of h3
              have e5 : ((rb3[0].toNat : Int) == 45) = false := by rw [e3' e2]; rfl
              have e6 : ((rb3[0].toNat : Int) == 43) = true := by rw [e3' e2]; rfl
              have HE4 := Aside0.mk e4
              have hz4 : (rb3.extract 1 rb3.size).size ≤ 200 := by simp; omega
              clear h3 e3' e4
              go_upto_region 19 with (fail)
              generalize rb3.extract 1 rb3.size = rb4 at *
              have hv := HV.out
              rw [← HE4.out] at hv
              have CD4 := Aside0.mk (refDigits_any rb4 (by omega))
              obtain ⟨k4, hk4⟩ : ∃ k4, k4 = digN rb4.data.toList := ⟨_, rfl⟩
              have hk4b : k4 ≤ rb4.size := by have := digN_le rb4.data.toList; rw [hk4, ← toList_size]; exact this
              rw [← hk4] at CD4 hv
              rw [toList_size] at hv
              clear hk4 HV HE4
              by_cases t1 : rb4.data.toList = []
              · rw [if_pos (.inl t1)] at hv
                have HV := Aside0.mk hv
                obtain ⟨x1, x2⟩ := empty_of t1
                clear hv t1 x2
                go_wp2_with fail
                go_returns
                exact parts_none HV.out
              · have x1 : rb4.toList.isEmpty = false := by rw [bytes_toList]; simpa using t1
                by_cases t2 : k4 = rb4.size
                · rw [if_neg (fun h => h.elim t1 (fun h => h t2))] at hv
                  have HV := Aside0.mk hv
                  have x2 : ((k4 : Int) != (rb4.size : Int)) = false := by simp [t2]
                  clear hv t1 t2
                  go_wp2_with fail
                  refine (CD4.out _).mono ?_
                  rintro e w1 ⟨rfl, rfl⟩
                  go_wp2_with fail
                  go_returns
                  exact parts_some HV.out rfl rfl
                · rw [if_pos (.inr t2)] at hv
                  have HV := Aside0.mk hv
                  have x2 : ((k4 : Int) != (rb4.size : Int)) = true := by rw [bne_iff_ne]; omega
                  clear hv t1 t2
                  go_wp2_with fail
                  refine (CD4.out _).mono ?_
                  rintro e w1 ⟨rfl, rfl⟩
                  go_wp2_with fail
                  go_returns
                  exact parts_none HV.out
            · rw [signR, if_neg g1, if_neg g2] at hq
              injection hq with q1 q2
              subst q1 q2
              obtain ⟨e1, e2, e3', e4⟩ := cons_of h3
              have e5 : ((rb3[0].toNat : Int) == 45) = false := by rw [e3' e2]; exact ne_of g1
              have e6 : ((rb3[0].toNat : Int) == 43) = false := by rw [e3' e2]; exact ne_of g2
              have HE4 := Aside0.mk h3
              have hz4 := hz3
              clear h3 e3' e4 g1 g2
              go_upto_region 19 with (fail)
              obtain ⟨rb4, hrb4⟩ : ∃ x, x = rb3 := ⟨_, rfl⟩
              subst hrb4
              have hv := HV.out
              rw [← HE4.out] at hv
              have CD4 := Aside0.mk (refDigits_any rb4 (by omega))
              obtain ⟨k4, hk4⟩ : ∃ k4, k4 = digN rb4.data.toList := ⟨_, rfl⟩
              have hk4b : k4 ≤ rb4.size := by have := digN_le rb4.data.toList; rw [hk4, ← toList_size]; exact this
              rw [← hk4] at CD4 hv
              rw [toList_size] at hv
              clear hk4 HV HE4
              by_cases t1 : rb4.data.toList = []
              · rw [if_pos (.inl t1)] at hv
                have HV := Aside0.mk hv
                obtain ⟨x1, x2⟩ := empty_of t1
                rw [x1] at e1
                cases e1
              · have x1 : rb4.toList.isEmpty = false := by rw [bytes_toList]; simpa using t1
                by_cases t2 : k4 = rb4.size
                · rw [if_neg (fun h => h.elim t1 (fun h => h t2))] at hv
                  have HV := Aside0.mk hv
                  have x2 : ((k4 : Int) != (rb4.size : Int)) = false := by simp [t2]
                  clear hv t1 t2
                  go_wp2_with fail
                  refine (CD4.out _).mono ?_
                  rintro e w1 ⟨rfl, rfl⟩
                  go_wp2_with fail
                  go_returns
                  exact parts_some HV.out rfl rfl
                · rw [if_pos (.inr t2)] at hv
                  have HV := Aside0.mk hv
                  have x2 : ((k4 : Int) != (rb4.size : Int)) = true := by rw [bne_iff_ne]; omega
                  clear hv t1 t2
                  go_wp2_with fail
                  refine (CD4.out _).mono ?_
                  rintro e w1 ⟨rfl, rfl⟩
                  go_wp2_with fail
                  go_returns
                  exact parts_none HV.out
        · rw [if_neg hc] at hv
          have HV := Aside0.mk hv
          have f5 : ((rb2[0].toNat : Int) != 101) = true := by rw [f3]; exact bne_of (d := 101) (fun h => hc (.inl h))
          have f6 : ((rb2[0].toNat : Int) != 69) = true := by rw [f3]; exact bne_of (d := 69) (fun h => hc (.inr h))
          clear hv f3 hc
          go_wp2_with fail
          go_returns
          exact parts_none HV.out
end Go.Proofs.YtmenjcjpihpjjaaDoor.Fb
