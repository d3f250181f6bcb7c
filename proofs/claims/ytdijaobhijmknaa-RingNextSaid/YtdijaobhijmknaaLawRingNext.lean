/- The law RingNext: by the next one all numbers of a column are found, rising, and no others. -/
import Derived.Test.YtdijaobhijmknaaRingQ
import Derived.Test.YtdijaobhijmknaaOpenT
import Derived.Maps.OwnOps
set_option linter.unusedSimpArgs false
set_option linter.unusedVariables false
namespace Go.Proofs.Ytdijaobhijmknaa.Rg
open Go Go.RowKit Go.Proofs.YtdijaobhijmknaaW.PrintWords Go.Proofs.YtdijaobhijmknaaW.PrintLast Go.Proofs.YtdijaobhijmknaaW.PrintMore
attribute [local go_sem] max2_int min2_int max_two min_two
theorem vals_take {a : List Tri} {z : Tri} {i : Nat} (col : Nat) (h : i < a.length) : (vals a col).take (i + 1) = (vals a col).take i ++ [(a.getD i z).at col] := by
  unfold vals
  rw [← List.map_take, ← List.map_take, take_snoc (z := z) h, List.map_append]; rfl
theorem wf_mk {x : Int} (h1 : (-9223372036854775808 : Int) ≤ x) (h2 : x ≤ 9223372036854775807) : (Lit.int .i64 x).wf = true := by
  simp [Lit.wf, IntKind.min, IntKind.max, IntKind.signed, IntKind.bits]; exact ⟨h1, h2⟩
theorem nxt_long (A : Option Addr) (c : Nat) (l : List Tri) (p : Tri) (col : Int) (w : World) (hl : 60 < l.length) :
    Calls Try.prog 15 #[.slice A l.length c, p.val, .int .i64 col] w fun e w' => e = .returned (.bool true) ∧ Below w.heap.size w w' := by
  have hl2 : (60 : Int) < (l.length : Int) := by omega
  unfold Tri.val
  clear hl
  go_enter Try.func15, Try.ntmps15
  go_wp2_with fail
  go_ret
  exact ⟨rfl, below_alloc (Below.refl _ _) _⟩
theorem nxt_no (A : Option Addr) (c : Nat) (l : List Tri) (p : Tri) (col : Int) (w : World) (hr : Kd.C kT w A l.length l) (hl : l.length ≤ 60) (hm : mayB l = false) :
    Calls Try.prog 15 #[.slice A l.length c, p.val, .int .i64 col] w fun e w' => e = .returned (.bool true) ∧ Below w.heap.size w w' := by
  obtain ⟨wb, hwb, HX0, HW, HWS⟩ := boxed_world w p 54
  have CM := Aside0.mk (refMay_any A c l wb (Kd.C_below hr HW.out) (by omega))
  rw [hm] at CM
  obtain ⟨n, hn⟩ : ∃ n, n = l.length := ⟨_, rfl⟩
  rw [← hn] at CM hl ⊢
  have hl2 : (n : Int) ≤ 60 := by omega
  unfold Tri.val
  rw [hwb] at CM HW
  clear hr hn hm hl hwb HX0 HWS
  go_enter Try.func15, Try.ntmps15
  go_wp2_with (first
    | (go_at_call 46; (with_reducible refine CM.out.mono ?_); rintro e w2 ⟨rfl, hb⟩; have HB2 := Aside0.mk (below_step HW.out hb); clear hb))
  go_ret
  exact ⟨rfl, HB2.out⟩
theorem nxt_col (A : Option Addr) (c : Nat) (l : List Tri) (p : Tri) (col : Int) (w : World) (hr : Kd.C kT w A l.length l) (hl : l.length ≤ 60) (hm : mayB l = true) (hc : col < 0 ∨ 2 < col) :
    Calls Try.prog 15 #[.slice A l.length c, p.val, .int .i64 col] w fun e w' => e = .returned (.bool true) ∧ Below w.heap.size w w' := by
  obtain ⟨wb, hwb, HX0, HW, HWS⟩ := boxed_world w p 54
  have CM := Aside0.mk (refMay_any A c l wb (Kd.C_below hr HW.out) (by omega))
  rw [hm] at CM
  obtain ⟨n, hn⟩ : ∃ n, n = l.length := ⟨_, rfl⟩
  rw [← hn] at CM hl ⊢
  have hl2 : (n : Int) ≤ 60 := by omega
  unfold Tri.val
  rw [hwb] at CM HW
  clear hr hn hm hl hwb HX0 HWS
  rcases hc with hc | hc
  · go_enter Try.func15, Try.ntmps15
    go_wp2_with (first
      | (go_at_call 46; (with_reducible refine CM.out.mono ?_); rintro e w2 ⟨rfl, hb⟩; have HB2 := Aside0.mk (below_step HW.out hb); clear hb))
    go_ret
    exact ⟨rfl, HB2.out⟩
  · have hc2 : 0 ≤ col := by omega
    go_enter Try.func15, Try.ntmps15
    go_wp2_with (first
      | (go_at_call 46; (with_reducible refine CM.out.mono ?_); rintro e w2 ⟨rfl, hb⟩; have HB2 := Aside0.mk (below_step HW.out hb); clear hb))
    go_ret
    exact ⟨rfl, HB2.out⟩
set_option maxRecDepth 100000 in
set_option maxHeartbeats 4000000 in
theorem nxt_0 (A : Option Addr) (c : Nat) (l : List Tri) (p : Tri) (w : World) (hr : Kd.C kT w A l.length l) (hl : l.length ≤ 60) (hm : mayB l = true) :
    Calls Try.prog 15 #[.slice A l.length c, p.val, .int .i64 0] w fun e w' => e = .returned (.bool true) ∧ Below w.heap.size w w' := by
  have hmm := @run_makeMap Try.prog
  obtain ⟨z, hz⟩ : ∃ z : Tri, z = ⟨0, 0, 0⟩ := ⟨_, rfl⟩
  obtain ⟨wb, hwb, HX0, HW, HWS⟩ := boxed_world w p 54
  have HL0 := Kd.C_below hr HW.out
  have CM := Aside0.mk (refMay_any A c l wb HL0 (by omega))
  rw [hm] at CM
  have CN0 := Aside0.mk (fun W (h : Kd.C kT W A l.length l) => new_ok A c l W h hm)
  have CA := Aside0.mk (fun W (h : Kd.C kT W A l.length l) => refAll_any A c l p W h (by omega))
  obtain ⟨a, ha⟩ : ∃ a, a = allL l p := ⟨_, rfl⟩
  have hal : a.length ≤ l.length := by rw [ha]; exact allL_len l p
  obtain ⟨f, hf⟩ : ∃ f : Int → Int, f = fun v => nextT l p 0 v := ⟨_, rfl⟩
  have hfe : ∀ v, nextC l p 0 v = f v := fun v => by rw [hf]; rfl
  have CX : Aside0 (∀ (r : Value) (v : Int) W, IsRing W r l → Calls Try.prog 53 #[r, p.val, .int .i64 0, .int .i64 v] W fun e w' => e = .returned (.int .i64 (f v)) ∧ Below W.heap.size W w') := ⟨fun r v W h => by
    have := next_any (r := r) p 0 v l W h (by omega)
    rwa [hfe] at this⟩
  have CC : Aside0 (∀ (r : Value) (q : Tri) W, IsRing W r l → Calls Try.prog 50 #[r, q.val] W fun e w' => e = .returned (.int .i64 ((allL l q).length : Int)) ∧ Below W.heap.size W w') := ⟨fun r q W h => ring_count (r := r) q l W h.l (by omega)⟩
  obtain ⟨V, hV⟩ : ∃ V, V = vals a 0 := ⟨_, rfl⟩
  have HF : Aside0 (NextI V (f 0) 0 ∧ (f 0 ≠ 0 → 0 < f 0) ∧ 0 ≤ f 0 ∧ f 0 ≤ 1000) := ⟨by
    rw [hV, ha, hf]; exact ⟨(next_first p hm (by decide)).1, (next_first p hm (by decide)).2, next_bd p _ hm (by decide)⟩⟩
  have HO : Aside0 (∀ v n, NextI V v n → v ≠ 0 → NextI V (f (v + 1)) (n + 1) ∧ (f (v + 1) ≠ 0 → v < f (v + 1)) ∧ 0 ≤ f (v + 1) ∧ f (v + 1) ≤ 1000) := ⟨fun v n h hv => by
    rw [hV, ha] at *; rw [hf]; exact ⟨(next_on p hm (by decide) h hv).1, (next_on p hm (by decide) h hv).2, next_bd p _ hm (by decide)⟩⟩
  have HQ : Aside0 (∀ v n, NextI V v n → v ≠ 0 → 1 ≤ (allL l ⟨v, p.p, p.o⟩).length ∧ (p.s = 0 ∨ p.s = v)) := ⟨fun v n h hv => by
    rw [hV, ha] at h; exact count_put (col := 0) (by decide) h hv⟩
  have hVl : V.length = a.length := by rw [hV]; exact vals_len a 0
  have HVT := Aside0.mk (fun i (hi : i < a.length) => vals_take (a := a) (z := z) (i := i) 0 hi)
  rw [← hV] at HVT
  have HVW : Aside0 (∀ x ∈ V, 1 ≤ x ∧ x ≤ 1000) := ⟨by rw [hV, ha]; exact vals_ok p hm (by decide)⟩
  rw [← ha] at CA
  have CK := Aside0.mk known_any
  obtain ⟨n, hn⟩ : ∃ n, n = l.length := ⟨_, rfl⟩
  rw [← hn] at CN0 CM CA hal hl HL0 ⊢
  obtain ⟨m, hmm2⟩ : ∃ m, m = a.length := ⟨_, rfl⟩
  rw [← hmm2] at hal HVT hVl
  have HM := Aside0.mk hmm2
  have hl2 : (n : Int) ≤ 60 := by omega
  have HHL := Aside0.mk HL0
  have HVL := Aside0.mk hVl
  unfold Tri.val at *
  rw [hwb] at CM HW HX0 HHL
  clear hr hn hm hwb HWS ha hz hmm2 HL0 hVl hV hf hfe
  go_enter Try.func15, Try.ntmps15
  go_wp2_with (first
    | (go_at_call 46; (with_reducible refine CM.out.mono ?_); rintro e w1 ⟨rfl, hb⟩; have HB1 := Aside0.mk (below_step HW.out hb); have HX1 := Aside0.mk (HX0.out.below hb); have HL1 := Aside0.mk (Kd.C_below HHL.out hb); clear hb)
    | (go_at_call 45; (with_reducible refine (CN0.out _ HL1.out).mono ?_); rintro e w2 ⟨r, rfl, hr, _, hb⟩; have HB2 := Aside0.mk (below_step HB1.out hb); have HX2 := Aside0.mk (HX1.out.below hb); have HL2 := Aside0.mk (Kd.C_below HL1.out hb); have HR2 := Aside0.mk hr; obtain ⟨rb, e5⟩ := hr.ptr; subst e5; obtain ⟨x0, x1, x2⟩ := HX2.out; clear hb hr)
    | (go_at_call 48; (with_reducible refine (CA.out _ HL2.out).mono ?_); rintro e w3 hw; obtain ⟨A3, c3, rfl, hv, hb⟩ := row_len hw; have HA3 := Aside0.mk (Bs.reads_n hv).2.2; rw [← HM.out] at HA3; have HB3 := Aside0.mk (below_step HB2.out hb); have HX3 := Aside0.mk (HX2.out.below hb); have HR3 := Aside0.mk (HR2.out.below hb); clear hw hv hb x0 x1 x2; obtain ⟨x0, x1, x2⟩ := HX3.out)
    | (go_at_call 53; (with_reducible refine (CX.out _ _ _ HR3.out).mono ?_); rintro e w4 ⟨rfl, hb⟩; have HB4 := Aside0.mk (below_step HB3.out hb); have HX4 := Aside0.mk (HX3.out.below hb); have HR4 := Aside0.mk (HR3.out.below hb); have HA4 := Aside0.mk (Kd.C_below HA3.out hb); clear hb x0 x1 x2))
  rw [← HM.out]
  go_loopw [10, 11, 12] (fun s10 s11 s12 wr => ∃ (i : Nat) (v last : Int), i ≤ 60 ∧ 0 ≤ v ∧ v ≤ 1000 ∧ s10 = .int .i64 i ∧ s11 = .int .i64 last ∧ s12 = .int .i64 v ∧ Aside0 (NextI V v i ∧ (v ≠ 0 → last < v)) ∧ Aside0 (Boxed wr w.heap.size p) ∧ Aside0 (IsRing wr (.pointer (some ⟨rb, 0, none⟩)) l) ∧ Aside0 (Kd.C kT wr A3 m a) ∧ Aside0 (Below w.heap.size w wr)) (fun s _ _ _ => 61 - (intOf s).toNat)
  case atStart => exact ⟨0, f 0, 0, by omega, HF.out.2.2.1, HF.out.2.2.2, rfl, rfl, rfl, ⟨HF.out.1, HF.out.2.1⟩, HX4, HR4, HA4, HB4⟩
  case round =>
    clear HX3 HR3 HA3 HB3 HX2 HR2 HB2 HX1 HB1 HX4 HR4 HA4 HB4 HF HL1 HL2 HHL CM CN0 CA
    obtain ⟨wr2, rfl⟩ : ∃ x, x = wr := ⟨wr, rfl⟩
    obtain ⟨i, v, last, hi, hv1, hv2, rfl, rfl, rfl, HI, HX, HR, HA, HB⟩ := hrel
    obtain ⟨x0, x1, x2⟩ := HX.out
    by_cases hv0 : v = 0
    · subst hv0
      have hi2 : i = (ded V).length := by
        rcases HI.out.1 with ⟨_, h⟩ | ⟨h, _⟩
        · exact h
        · omega
      have HI2 := Aside0.mk hi2
      have HB2 := HB
      have HA2 := HA
      have HOM := Aside0.mk (World.ownsMap_made (H := Unit) wr2 Try.prog 3 (plainElem Try.prog 4))
      clear hi2 HI HX HR HA HB x0 x1 x2 HO HQ
      go_wp2_with fail
      go_loopw [15] (fun x wm => ∃ j : Nat, j ≤ m ∧ x = .int .i64 j ∧ Aside0 (wm.ownsMap Try.prog 3 (plainElem (H := Unit) Try.prog 4) wr2.heap.size j (Maps.setOf (.lit (.bool true)) ((V.take j).map (Lit.int .i64)))) ∧ Aside0 (Below wr2.heap.size wr2 wm)) (fun x _ => m - (intOf x).toNat)
      case atStart => exact ⟨0, by omega, rfl, HOM, ⟨below_alloc (Below.refl _ _) _⟩⟩
      case round =>
        obtain ⟨wm, rfl⟩ : ∃ x, x = wr := ⟨wr, rfl⟩
        obtain ⟨j, hj, rfl, HW1, HBW⟩ := hrel
        have law := Maps.int_keyed (P := Try.prog) Try.underlying3
        by_cases hlt : j < m
        · obtain ⟨ad, rfl, k0, k1, k2⟩ := at3_of (Kd.C_below HA2.out HBW.out) j hlt z
          obtain ⟨t, ht⟩ : ∃ t, t = a.getD j z := ⟨_, rfl⟩
          have hvt := HVT.out j hlt
          rw [← ht] at k0 k1 k2 hvt
          have hwf : (Lit.int .i64 t.s).wf = true := by
            have hmem : t.at 0 ∈ V := List.mem_of_mem_take (i := j + 1) (by rw [hvt]; simp)
            have := HVW.out _ hmem
            exact wf_mk (show (-9223372036854775808 : Int) ≤ t.at 0 by omega) (show t.at 0 ≤ 9223372036854775807 by omega)
          have hkey := Maps.keyOf_int_mk (P := Try.prog) Try.underlying3 hwf
          have hi2 : (0 : Int) ≤ (j : Int) := by omega
          have hi3 : (j : Int) < (m : Int) := by omega
          have hsn := Maps.setOf_snoc (H := Unit) (.lit (.bool true)) ((V.take j).map (Lit.int .i64)) (.int .i64 t.s)
          have HSN : Aside0 (Maps.setOf (.lit (.bool true)) ((V.take (j + 1)).map (Lit.int .i64)) = (Maps.setOf (.lit (.bool true)) ((V.take j).map (Lit.int .i64))).put (.int .i64 t.s) (DataW.lit (H := Unit) (.bool true))) := ⟨by
            rw [hvt, List.map_append]; exact hsn⟩
          clear hwf hvt ht hsn
          go_wp2_with (first
            | (at_mapUpdate; refine wpList_mapUpdate_own _ rfl _ _ _ 66 rfl 3 4 law Try.underlying66 _ wr2.heap.size j _ rfl HW1.out (by unfold maxLen; omega) _ _ _ rfl rfl hkey _ [] (plainElem_bool Try.underlying4 true) ?_; intro w5 hown5 hgrow5; have HW5 := Aside0.mk hown5; have HB5 := Aside0.mk (pw_below_grown HBW.out _ HBW.out.size hgrow5 (fun k' hk => Nat.le_of_eq (Option.some.inj hk))); clear hown5 hgrow5 hkey))
          go_roundw
          case rel => exact ⟨j + 1, by omega, by go_num, ⟨by rw [HSN.out]; exact HW5.out⟩, HB5⟩
          case measure => simp [intOf]; omega
        · have hjm : j = m := by omega
          subst hjm
          obtain ⟨D, hD⟩ : ∃ D : DataW Unit, D = Maps.setOf (.lit (.bool true)) ((V.take j).map (Lit.int .i64)) := ⟨_, rfl⟩
          have hs : Maps.size D = i := by
            rw [hD, HI2.out, ← HVL.out, List.take_length]; exact set_size _ V
          have HWD : Aside0 (wm.ownsMap Try.prog 3 (plainElem (H := Unit) Try.prog 4) wr2.heap.size j D) := ⟨by rw [hD]; exact HW1.out⟩
          have HS := Aside0.mk hs
          have HB6 := Aside0.mk (below_two' HB2.out HBW.out)
          clear hD hs HW1 HI2 HVL HVT HVW law HM
          go_wp2_with (first
            | (at_len; refine wpList_len_own _ rfl (.tmp 106) 66 rfl 3 4 Try.underlying66 _ wr2.heap.size j D rfl HWD.out ?_; rw [HS.out])
            | (go_at_call 47; (with_reducible refine (CK.out _).mono ?_); rintro e w7 ⟨rfl, hb⟩; have HB7 := Aside0.mk (below_step HB6.out hb); clear hb))
          go_ret
          exact ⟨rfl, HB7.out⟩
    · have hvb : (v == 0) = false := by simpa using hv0
      have hvn : (v != 0) = true := by simpa using hv0
      obtain ⟨HON, HOL, HO0, HO1⟩ := HO.out v i HI.out.1 hv0
      obtain ⟨HQ1, HQ2⟩ := HQ.out v i HI.out.1 hv0
      have hlt := next_less HI.out.1 hv0
      rw [HVL.out] at hlt
      have hlast : last < v := HI.out.2 hv0
      have hin : (i : Int) ≤ (n : Int) := by omega
      have HON := Aside0.mk HON
      have HOL := Aside0.mk HOL
      obtain ⟨cq, hcq⟩ : ∃ cq : Int, cq = ((allL l ⟨v, p.p, p.o⟩).length : Int) := ⟨_, rfl⟩
      have hcq1 : 1 ≤ cq := by omega
      have CCQ : Aside0 (∀ W, IsRing W (.pointer (some ⟨rb, 0, none⟩)) l → Calls Try.prog 50 #[.pointer (some ⟨rb, 0, none⟩), .agg #[.int .i64 v, .int .i64 p.p, .int .i64 p.o]] W fun e w' => e = .returned (.int .i64 cq) ∧ Below W.heap.size W w') := ⟨fun W h => by
        rw [hcq]; exact CC.out _ ⟨v, p.p, p.o⟩ W h⟩
      have hv3 : 1 ≤ v := by omega
      clear hcq HQ1 HI HO HQ
      rcases HQ2 with HQ2 | HQ2
      · have hp0 : (p.s != 0) = false := by simp [HQ2]
        clear HQ2 hv0
        go_wp2_with (first
          | (go_at_call 50; (with_reducible refine (CCQ.out _ ?hr).mono ?_); (case hr => exact HR.out.below (below_alloc (Below.refl _ _) _)); rintro e w5 ⟨rfl, hb⟩; have HB5 := Aside0.mk (below_step (below_alloc HB.out _) hb); have HX5 := Aside0.mk ((HX.out.below (below_alloc (Below.refl _ _) _)).below hb); have HR5 := Aside0.mk ((HR.out.below (below_alloc (Below.refl _ _) _)).below hb); have HA5 := Aside0.mk (Kd.C_below (Kd.C_alloc HA.out _) hb); clear hb; obtain ⟨y0, y1, y2⟩ := HX5.out)
          | (go_at_call 53; (with_reducible refine (CX.out _ _ _ HR5.out).mono ?_); rintro e w6 ⟨rfl, hb⟩; have HB6 := Aside0.mk (below_step HB5.out hb); have HX6 := Aside0.mk (HX5.out.below hb); have HR6 := Aside0.mk (HR5.out.below hb); have HA6 := Aside0.mk (Kd.C_below HA5.out hb); clear hb))
        go_roundw
        case rel => exact ⟨i + 1, _, v, by omega, HO0, HO1, by go_num, rfl, rfl, ⟨HON.out, HOL.out⟩, HX6, HR6, HA6, HB6⟩
        case measure => simp [intOf]; omega
      · by_cases hp0 : p.s = 0
        · omega
        · have hp1 : (p.s != 0) = true := by simpa using hp0
          have hp2 : (p.s != v) = false := by simp [HQ2]
          clear hp0 HQ2 hv0
          go_wp2_with (first
            | (go_at_call 50; (with_reducible refine (CCQ.out _ ?hr).mono ?_); (case hr => exact HR.out.below (below_alloc (Below.refl _ _) _)); rintro e w5 ⟨rfl, hb⟩; have HB5 := Aside0.mk (below_step (below_alloc HB.out _) hb); have HX5 := Aside0.mk ((HX.out.below (below_alloc (Below.refl _ _) _)).below hb); have HR5 := Aside0.mk ((HR.out.below (below_alloc (Below.refl _ _) _)).below hb); have HA5 := Aside0.mk (Kd.C_below (Kd.C_alloc HA.out _) hb); clear hb; obtain ⟨y0, y1, y2⟩ := HX5.out)
            | (go_at_call 53; (with_reducible refine (CX.out _ _ _ HR5.out).mono ?_); rintro e w6 ⟨rfl, hb⟩; have HB6 := Aside0.mk (below_step HB5.out hb); have HX6 := Aside0.mk (HX5.out.below hb); have HR6 := Aside0.mk (HR5.out.below hb); have HA6 := Aside0.mk (Kd.C_below HA5.out hb); clear hb))
          go_roundw
          case rel => exact ⟨i + 1, _, v, by omega, HO0, HO1, by go_num, rfl, rfl, ⟨HON.out, HOL.out⟩, HX6, HR6, HA6, HB6⟩
          case measure => simp [intOf]; omega
set_option maxRecDepth 100000 in
set_option maxHeartbeats 4000000 in
theorem nxt_1 (A : Option Addr) (c : Nat) (l : List Tri) (p : Tri) (w : World) (hr : Kd.C kT w A l.length l) (hl : l.length ≤ 60) (hm : mayB l = true) :
    Calls Try.prog 15 #[.slice A l.length c, p.val, .int .i64 1] w fun e w' => e = .returned (.bool true) ∧ Below w.heap.size w w' := by
  have hmm := @run_makeMap Try.prog
  obtain ⟨z, hz⟩ : ∃ z : Tri, z = ⟨0, 0, 0⟩ := ⟨_, rfl⟩
  obtain ⟨wb, hwb, HX0, HW, HWS⟩ := boxed_world w p 54
  have HL0 := Kd.C_below hr HW.out
  have CM := Aside0.mk (refMay_any A c l wb HL0 (by omega))
  rw [hm] at CM
  have CN0 := Aside0.mk (fun W (h : Kd.C kT W A l.length l) => new_ok A c l W h hm)
  have CA := Aside0.mk (fun W (h : Kd.C kT W A l.length l) => refAll_any A c l p W h (by omega))
  obtain ⟨a, ha⟩ : ∃ a, a = allL l p := ⟨_, rfl⟩
  have hal : a.length ≤ l.length := by rw [ha]; exact allL_len l p
  obtain ⟨f, hf⟩ : ∃ f : Int → Int, f = fun v => nextT l p 1 v := ⟨_, rfl⟩
  have hfe : ∀ v, nextC l p 1 v = f v := fun v => by rw [hf]; rfl
  have CX : Aside0 (∀ (r : Value) (v : Int) W, IsRing W r l → Calls Try.prog 53 #[r, p.val, .int .i64 1, .int .i64 v] W fun e w' => e = .returned (.int .i64 (f v)) ∧ Below W.heap.size W w') := ⟨fun r v W h => by
    have := next_any (r := r) p 1 v l W h (by omega)
    rwa [hfe] at this⟩
  have CC : Aside0 (∀ (r : Value) (q : Tri) W, IsRing W r l → Calls Try.prog 50 #[r, q.val] W fun e w' => e = .returned (.int .i64 ((allL l q).length : Int)) ∧ Below W.heap.size W w') := ⟨fun r q W h => ring_count (r := r) q l W h.l (by omega)⟩
  obtain ⟨V, hV⟩ : ∃ V, V = vals a 1 := ⟨_, rfl⟩
  have HF : Aside0 (NextI V (f 0) 0 ∧ (f 0 ≠ 0 → 0 < f 0) ∧ 0 ≤ f 0 ∧ f 0 ≤ 1000) := ⟨by
    rw [hV, ha, hf]; exact ⟨(next_first p hm (by decide)).1, (next_first p hm (by decide)).2, next_bd p _ hm (by decide)⟩⟩
  have HO : Aside0 (∀ v n, NextI V v n → v ≠ 0 → NextI V (f (v + 1)) (n + 1) ∧ (f (v + 1) ≠ 0 → v < f (v + 1)) ∧ 0 ≤ f (v + 1) ∧ f (v + 1) ≤ 1000) := ⟨fun v n h hv => by
    rw [hV, ha] at *; rw [hf]; exact ⟨(next_on p hm (by decide) h hv).1, (next_on p hm (by decide) h hv).2, next_bd p _ hm (by decide)⟩⟩
  have HQ : Aside0 (∀ v n, NextI V v n → v ≠ 0 → 1 ≤ (allL l ⟨p.s, v, p.o⟩).length ∧ (p.p = 0 ∨ p.p = v)) := ⟨fun v n h hv => by
    rw [hV, ha] at h; exact count_put (col := 1) (by decide) h hv⟩
  have hVl : V.length = a.length := by rw [hV]; exact vals_len a 1
  have HVT := Aside0.mk (fun i (hi : i < a.length) => vals_take (a := a) (z := z) (i := i) 1 hi)
  rw [← hV] at HVT
  have HVW : Aside0 (∀ x ∈ V, 1 ≤ x ∧ x ≤ 1000) := ⟨by rw [hV, ha]; exact vals_ok p hm (by decide)⟩
  rw [← ha] at CA
  have CK := Aside0.mk known_any
  obtain ⟨n, hn⟩ : ∃ n, n = l.length := ⟨_, rfl⟩
  rw [← hn] at CN0 CM CA hal hl HL0 ⊢
  obtain ⟨m, hmm2⟩ : ∃ m, m = a.length := ⟨_, rfl⟩
  rw [← hmm2] at hal HVT hVl
  have HM := Aside0.mk hmm2
  have hl2 : (n : Int) ≤ 60 := by omega
  have HHL := Aside0.mk HL0
  have HVL := Aside0.mk hVl
  unfold Tri.val at *
  rw [hwb] at CM HW HX0 HHL
  clear hr hn hm hwb HWS ha hz hmm2 HL0 hVl hV hf hfe
  go_enter Try.func15, Try.ntmps15
  go_wp2_with (first
    | (go_at_call 46; (with_reducible refine CM.out.mono ?_); rintro e w1 ⟨rfl, hb⟩; have HB1 := Aside0.mk (below_step HW.out hb); have HX1 := Aside0.mk (HX0.out.below hb); have HL1 := Aside0.mk (Kd.C_below HHL.out hb); clear hb)
    | (go_at_call 45; (with_reducible refine (CN0.out _ HL1.out).mono ?_); rintro e w2 ⟨r, rfl, hr, _, hb⟩; have HB2 := Aside0.mk (below_step HB1.out hb); have HX2 := Aside0.mk (HX1.out.below hb); have HL2 := Aside0.mk (Kd.C_below HL1.out hb); have HR2 := Aside0.mk hr; obtain ⟨rb, e5⟩ := hr.ptr; subst e5; obtain ⟨x0, x1, x2⟩ := HX2.out; clear hb hr)
    | (go_at_call 48; (with_reducible refine (CA.out _ HL2.out).mono ?_); rintro e w3 hw; obtain ⟨A3, c3, rfl, hv, hb⟩ := row_len hw; have HA3 := Aside0.mk (Bs.reads_n hv).2.2; rw [← HM.out] at HA3; have HB3 := Aside0.mk (below_step HB2.out hb); have HX3 := Aside0.mk (HX2.out.below hb); have HR3 := Aside0.mk (HR2.out.below hb); clear hw hv hb x0 x1 x2; obtain ⟨x0, x1, x2⟩ := HX3.out)
    | (go_at_call 53; (with_reducible refine (CX.out _ _ _ HR3.out).mono ?_); rintro e w4 ⟨rfl, hb⟩; have HB4 := Aside0.mk (below_step HB3.out hb); have HX4 := Aside0.mk (HX3.out.below hb); have HR4 := Aside0.mk (HR3.out.below hb); have HA4 := Aside0.mk (Kd.C_below HA3.out hb); clear hb x0 x1 x2))
  rw [← HM.out]
  go_loopw [10, 11, 12] (fun s10 s11 s12 wr => ∃ (i : Nat) (v last : Int), i ≤ 60 ∧ 0 ≤ v ∧ v ≤ 1000 ∧ s10 = .int .i64 i ∧ s11 = .int .i64 last ∧ s12 = .int .i64 v ∧ Aside0 (NextI V v i ∧ (v ≠ 0 → last < v)) ∧ Aside0 (Boxed wr w.heap.size p) ∧ Aside0 (IsRing wr (.pointer (some ⟨rb, 0, none⟩)) l) ∧ Aside0 (Kd.C kT wr A3 m a) ∧ Aside0 (Below w.heap.size w wr)) (fun s _ _ _ => 61 - (intOf s).toNat)
  case atStart => exact ⟨0, f 0, 0, by omega, HF.out.2.2.1, HF.out.2.2.2, rfl, rfl, rfl, ⟨HF.out.1, HF.out.2.1⟩, HX4, HR4, HA4, HB4⟩
  case round =>
    clear HX3 HR3 HA3 HB3 HX2 HR2 HB2 HX1 HB1 HX4 HR4 HA4 HB4 HF HL1 HL2 HHL CM CN0 CA
    obtain ⟨wr2, rfl⟩ : ∃ x, x = wr := ⟨wr, rfl⟩
    obtain ⟨i, v, last, hi, hv1, hv2, rfl, rfl, rfl, HI, HX, HR, HA, HB⟩ := hrel
    obtain ⟨x0, x1, x2⟩ := HX.out
    by_cases hv0 : v = 0
    · subst hv0
      have hi2 : i = (ded V).length := by
        rcases HI.out.1 with ⟨_, h⟩ | ⟨h, _⟩
        · exact h
        · omega
      have HI2 := Aside0.mk hi2
      have HB2 := HB
      have HA2 := HA
      have HOM := Aside0.mk (World.ownsMap_made (H := Unit) wr2 Try.prog 3 (plainElem Try.prog 4))
      clear hi2 HI HX HR HA HB x0 x1 x2 HO HQ
      go_wp2_with fail
      go_loopw [15] (fun x wm => ∃ j : Nat, j ≤ m ∧ x = .int .i64 j ∧ Aside0 (wm.ownsMap Try.prog 3 (plainElem (H := Unit) Try.prog 4) wr2.heap.size j (Maps.setOf (.lit (.bool true)) ((V.take j).map (Lit.int .i64)))) ∧ Aside0 (Below wr2.heap.size wr2 wm)) (fun x _ => m - (intOf x).toNat)
      case atStart => exact ⟨0, by omega, rfl, HOM, ⟨below_alloc (Below.refl _ _) _⟩⟩
      case round =>
        obtain ⟨wm, rfl⟩ : ∃ x, x = wr := ⟨wr, rfl⟩
        obtain ⟨j, hj, rfl, HW1, HBW⟩ := hrel
        have law := Maps.int_keyed (P := Try.prog) Try.underlying3
        by_cases hlt : j < m
        · obtain ⟨ad, rfl, k0, k1, k2⟩ := at3_of (Kd.C_below HA2.out HBW.out) j hlt z
          obtain ⟨t, ht⟩ : ∃ t, t = a.getD j z := ⟨_, rfl⟩
          have hvt := HVT.out j hlt
          rw [← ht] at k0 k1 k2 hvt
          have hwf : (Lit.int .i64 t.p).wf = true := by
            have hmem : t.at 1 ∈ V := List.mem_of_mem_take (i := j + 1) (by rw [hvt]; simp)
            have := HVW.out _ hmem
            exact wf_mk (show (-9223372036854775808 : Int) ≤ t.at 1 by omega) (show t.at 1 ≤ 9223372036854775807 by omega)
          have hkey := Maps.keyOf_int_mk (P := Try.prog) Try.underlying3 hwf
          have hi2 : (0 : Int) ≤ (j : Int) := by omega
          have hi3 : (j : Int) < (m : Int) := by omega
          have hsn := Maps.setOf_snoc (H := Unit) (.lit (.bool true)) ((V.take j).map (Lit.int .i64)) (.int .i64 t.p)
          have HSN : Aside0 (Maps.setOf (.lit (.bool true)) ((V.take (j + 1)).map (Lit.int .i64)) = (Maps.setOf (.lit (.bool true)) ((V.take j).map (Lit.int .i64))).put (.int .i64 t.p) (DataW.lit (H := Unit) (.bool true))) := ⟨by
            rw [hvt, List.map_append]; exact hsn⟩
          clear hwf hvt ht hsn
          go_wp2_with (first
            | (at_mapUpdate; refine wpList_mapUpdate_own _ rfl _ _ _ 66 rfl 3 4 law Try.underlying66 _ wr2.heap.size j _ rfl HW1.out (by unfold maxLen; omega) _ _ _ rfl rfl hkey _ [] (plainElem_bool Try.underlying4 true) ?_; intro w5 hown5 hgrow5; have HW5 := Aside0.mk hown5; have HB5 := Aside0.mk (pw_below_grown HBW.out _ HBW.out.size hgrow5 (fun k' hk => Nat.le_of_eq (Option.some.inj hk))); clear hown5 hgrow5 hkey))
          go_roundw
          case rel => exact ⟨j + 1, by omega, by go_num, ⟨by rw [HSN.out]; exact HW5.out⟩, HB5⟩
          case measure => simp [intOf]; omega
        · have hjm : j = m := by omega
          subst hjm
          obtain ⟨D, hD⟩ : ∃ D : DataW Unit, D = Maps.setOf (.lit (.bool true)) ((V.take j).map (Lit.int .i64)) := ⟨_, rfl⟩
          have hs : Maps.size D = i := by
            rw [hD, HI2.out, ← HVL.out, List.take_length]; exact set_size _ V
          have HWD : Aside0 (wm.ownsMap Try.prog 3 (plainElem (H := Unit) Try.prog 4) wr2.heap.size j D) := ⟨by rw [hD]; exact HW1.out⟩
          have HS := Aside0.mk hs
          have HB6 := Aside0.mk (below_two' HB2.out HBW.out)
          clear hD hs HW1 HI2 HVL HVT HVW law HM
          go_wp2_with (first
            | (at_len; refine wpList_len_own _ rfl (.tmp 106) 66 rfl 3 4 Try.underlying66 _ wr2.heap.size j D rfl HWD.out ?_; rw [HS.out])
            | (go_at_call 47; (with_reducible refine (CK.out _).mono ?_); rintro e w7 ⟨rfl, hb⟩; have HB7 := Aside0.mk (below_step HB6.out hb); clear hb))
          go_ret
          exact ⟨rfl, HB7.out⟩
    · have hvb : (v == 0) = false := by simpa using hv0
      have hvn : (v != 0) = true := by simpa using hv0
      obtain ⟨HON, HOL, HO0, HO1⟩ := HO.out v i HI.out.1 hv0
      obtain ⟨HQ1, HQ2⟩ := HQ.out v i HI.out.1 hv0
      have hlt := next_less HI.out.1 hv0
      rw [HVL.out] at hlt
      have hlast : last < v := HI.out.2 hv0
      have hin : (i : Int) ≤ (n : Int) := by omega
      have HON := Aside0.mk HON
      have HOL := Aside0.mk HOL
      obtain ⟨cq, hcq⟩ : ∃ cq : Int, cq = ((allL l ⟨p.s, v, p.o⟩).length : Int) := ⟨_, rfl⟩
      have hcq1 : 1 ≤ cq := by omega
      have CCQ : Aside0 (∀ W, IsRing W (.pointer (some ⟨rb, 0, none⟩)) l → Calls Try.prog 50 #[.pointer (some ⟨rb, 0, none⟩), .agg #[.int .i64 p.s, .int .i64 v, .int .i64 p.o]] W fun e w' => e = .returned (.int .i64 cq) ∧ Below W.heap.size W w') := ⟨fun W h => by
        rw [hcq]; exact CC.out _ ⟨p.s, v, p.o⟩ W h⟩
      have hv3 : 1 ≤ v := by omega
      clear hcq HQ1 HI HO HQ
      rcases HQ2 with HQ2 | HQ2
      · have hp0 : (p.p != 0) = false := by simp [HQ2]
        clear HQ2 hv0
        go_wp2_with (first
          | (go_at_call 50; (with_reducible refine (CCQ.out _ ?hr).mono ?_); (case hr => exact HR.out.below (below_alloc (Below.refl _ _) _)); rintro e w5 ⟨rfl, hb⟩; have HB5 := Aside0.mk (below_step (below_alloc HB.out _) hb); have HX5 := Aside0.mk ((HX.out.below (below_alloc (Below.refl _ _) _)).below hb); have HR5 := Aside0.mk ((HR.out.below (below_alloc (Below.refl _ _) _)).below hb); have HA5 := Aside0.mk (Kd.C_below (Kd.C_alloc HA.out _) hb); clear hb; obtain ⟨y0, y1, y2⟩ := HX5.out)
          | (go_at_call 53; (with_reducible refine (CX.out _ _ _ HR5.out).mono ?_); rintro e w6 ⟨rfl, hb⟩; have HB6 := Aside0.mk (below_step HB5.out hb); have HX6 := Aside0.mk (HX5.out.below hb); have HR6 := Aside0.mk (HR5.out.below hb); have HA6 := Aside0.mk (Kd.C_below HA5.out hb); clear hb))
        go_roundw
        case rel => exact ⟨i + 1, _, v, by omega, HO0, HO1, by go_num, rfl, rfl, ⟨HON.out, HOL.out⟩, HX6, HR6, HA6, HB6⟩
        case measure => simp [intOf]; omega
      · by_cases hp0 : p.p = 0
        · omega
        · have hp1 : (p.p != 0) = true := by simpa using hp0
          have hp2 : (p.p != v) = false := by simp [HQ2]
          clear hp0 HQ2 hv0
          go_wp2_with (first
            | (go_at_call 50; (with_reducible refine (CCQ.out _ ?hr).mono ?_); (case hr => exact HR.out.below (below_alloc (Below.refl _ _) _)); rintro e w5 ⟨rfl, hb⟩; have HB5 := Aside0.mk (below_step (below_alloc HB.out _) hb); have HX5 := Aside0.mk ((HX.out.below (below_alloc (Below.refl _ _) _)).below hb); have HR5 := Aside0.mk ((HR.out.below (below_alloc (Below.refl _ _) _)).below hb); have HA5 := Aside0.mk (Kd.C_below (Kd.C_alloc HA.out _) hb); clear hb; obtain ⟨y0, y1, y2⟩ := HX5.out)
            | (go_at_call 53; (with_reducible refine (CX.out _ _ _ HR5.out).mono ?_); rintro e w6 ⟨rfl, hb⟩; have HB6 := Aside0.mk (below_step HB5.out hb); have HX6 := Aside0.mk (HX5.out.below hb); have HR6 := Aside0.mk (HR5.out.below hb); have HA6 := Aside0.mk (Kd.C_below HA5.out hb); clear hb))
          go_roundw
          case rel => exact ⟨i + 1, _, v, by omega, HO0, HO1, by go_num, rfl, rfl, ⟨HON.out, HOL.out⟩, HX6, HR6, HA6, HB6⟩
          case measure => simp [intOf]; omega
set_option maxRecDepth 100000 in
set_option maxHeartbeats 4000000 in
theorem nxt_2 (A : Option Addr) (c : Nat) (l : List Tri) (p : Tri) (w : World) (hr : Kd.C kT w A l.length l) (hl : l.length ≤ 60) (hm : mayB l = true) :
    Calls Try.prog 15 #[.slice A l.length c, p.val, .int .i64 2] w fun e w' => e = .returned (.bool true) ∧ Below w.heap.size w w' := by
  have hmm := @run_makeMap Try.prog
  obtain ⟨z, hz⟩ : ∃ z : Tri, z = ⟨0, 0, 0⟩ := ⟨_, rfl⟩
  obtain ⟨wb, hwb, HX0, HW, HWS⟩ := boxed_world w p 54
  have HL0 := Kd.C_below hr HW.out
  have CM := Aside0.mk (refMay_any A c l wb HL0 (by omega))
  rw [hm] at CM
  have CN0 := Aside0.mk (fun W (h : Kd.C kT W A l.length l) => new_ok A c l W h hm)
  have CA := Aside0.mk (fun W (h : Kd.C kT W A l.length l) => refAll_any A c l p W h (by omega))
  obtain ⟨a, ha⟩ : ∃ a, a = allL l p := ⟨_, rfl⟩
  have hal : a.length ≤ l.length := by rw [ha]; exact allL_len l p
  obtain ⟨f, hf⟩ : ∃ f : Int → Int, f = fun v => nextT l p 2 v := ⟨_, rfl⟩
  have hfe : ∀ v, nextC l p 2 v = f v := fun v => by rw [hf]; rfl
  have CX : Aside0 (∀ (r : Value) (v : Int) W, IsRing W r l → Calls Try.prog 53 #[r, p.val, .int .i64 2, .int .i64 v] W fun e w' => e = .returned (.int .i64 (f v)) ∧ Below W.heap.size W w') := ⟨fun r v W h => by
    have := next_any (r := r) p 2 v l W h (by omega)
    rwa [hfe] at this⟩
  have CC : Aside0 (∀ (r : Value) (q : Tri) W, IsRing W r l → Calls Try.prog 50 #[r, q.val] W fun e w' => e = .returned (.int .i64 ((allL l q).length : Int)) ∧ Below W.heap.size W w') := ⟨fun r q W h => ring_count (r := r) q l W h.l (by omega)⟩
  obtain ⟨V, hV⟩ : ∃ V, V = vals a 2 := ⟨_, rfl⟩
  have HF : Aside0 (NextI V (f 0) 0 ∧ (f 0 ≠ 0 → 0 < f 0) ∧ 0 ≤ f 0 ∧ f 0 ≤ 1000) := ⟨by
    rw [hV, ha, hf]; exact ⟨(next_first p hm (by decide)).1, (next_first p hm (by decide)).2, next_bd p _ hm (by decide)⟩⟩
  have HO : Aside0 (∀ v n, NextI V v n → v ≠ 0 → NextI V (f (v + 1)) (n + 1) ∧ (f (v + 1) ≠ 0 → v < f (v + 1)) ∧ 0 ≤ f (v + 1) ∧ f (v + 1) ≤ 1000) := ⟨fun v n h hv => by
    rw [hV, ha] at *; rw [hf]; exact ⟨(next_on p hm (by decide) h hv).1, (next_on p hm (by decide) h hv).2, next_bd p _ hm (by decide)⟩⟩
  have HQ : Aside0 (∀ v n, NextI V v n → v ≠ 0 → 1 ≤ (allL l ⟨p.s, p.p, v⟩).length ∧ (p.o = 0 ∨ p.o = v)) := ⟨fun v n h hv => by
    rw [hV, ha] at h; exact count_put (col := 2) (by decide) h hv⟩
  have hVl : V.length = a.length := by rw [hV]; exact vals_len a 2
  have HVT := Aside0.mk (fun i (hi : i < a.length) => vals_take (a := a) (z := z) (i := i) 2 hi)
  rw [← hV] at HVT
  have HVW : Aside0 (∀ x ∈ V, 1 ≤ x ∧ x ≤ 1000) := ⟨by rw [hV, ha]; exact vals_ok p hm (by decide)⟩
  rw [← ha] at CA
  have CK := Aside0.mk known_any
  obtain ⟨n, hn⟩ : ∃ n, n = l.length := ⟨_, rfl⟩
  rw [← hn] at CN0 CM CA hal hl HL0 ⊢
  obtain ⟨m, hmm2⟩ : ∃ m, m = a.length := ⟨_, rfl⟩
  rw [← hmm2] at hal HVT hVl
  have HM := Aside0.mk hmm2
  have hl2 : (n : Int) ≤ 60 := by omega
  have HHL := Aside0.mk HL0
  have HVL := Aside0.mk hVl
  unfold Tri.val at *
  rw [hwb] at CM HW HX0 HHL
  clear hr hn hm hwb HWS ha hz hmm2 HL0 hVl hV hf hfe
  go_enter Try.func15, Try.ntmps15
  go_wp2_with (first
    | (go_at_call 46; (with_reducible refine CM.out.mono ?_); rintro e w1 ⟨rfl, hb⟩; have HB1 := Aside0.mk (below_step HW.out hb); have HX1 := Aside0.mk (HX0.out.below hb); have HL1 := Aside0.mk (Kd.C_below HHL.out hb); clear hb)
    | (go_at_call 45; (with_reducible refine (CN0.out _ HL1.out).mono ?_); rintro e w2 ⟨r, rfl, hr, _, hb⟩; have HB2 := Aside0.mk (below_step HB1.out hb); have HX2 := Aside0.mk (HX1.out.below hb); have HL2 := Aside0.mk (Kd.C_below HL1.out hb); have HR2 := Aside0.mk hr; obtain ⟨rb, e5⟩ := hr.ptr; subst e5; obtain ⟨x0, x1, x2⟩ := HX2.out; clear hb hr)
    | (go_at_call 48; (with_reducible refine (CA.out _ HL2.out).mono ?_); rintro e w3 hw; obtain ⟨A3, c3, rfl, hv, hb⟩ := row_len hw; have HA3 := Aside0.mk (Bs.reads_n hv).2.2; rw [← HM.out] at HA3; have HB3 := Aside0.mk (below_step HB2.out hb); have HX3 := Aside0.mk (HX2.out.below hb); have HR3 := Aside0.mk (HR2.out.below hb); clear hw hv hb x0 x1 x2; obtain ⟨x0, x1, x2⟩ := HX3.out)
    | (go_at_call 53; (with_reducible refine (CX.out _ _ _ HR3.out).mono ?_); rintro e w4 ⟨rfl, hb⟩; have HB4 := Aside0.mk (below_step HB3.out hb); have HX4 := Aside0.mk (HX3.out.below hb); have HR4 := Aside0.mk (HR3.out.below hb); have HA4 := Aside0.mk (Kd.C_below HA3.out hb); clear hb x0 x1 x2))
  rw [← HM.out]
  go_loopw [10, 11, 12] (fun s10 s11 s12 wr => ∃ (i : Nat) (v last : Int), i ≤ 60 ∧ 0 ≤ v ∧ v ≤ 1000 ∧ s10 = .int .i64 i ∧ s11 = .int .i64 last ∧ s12 = .int .i64 v ∧ Aside0 (NextI V v i ∧ (v ≠ 0 → last < v)) ∧ Aside0 (Boxed wr w.heap.size p) ∧ Aside0 (IsRing wr (.pointer (some ⟨rb, 0, none⟩)) l) ∧ Aside0 (Kd.C kT wr A3 m a) ∧ Aside0 (Below w.heap.size w wr)) (fun s _ _ _ => 61 - (intOf s).toNat)
  case atStart => exact ⟨0, f 0, 0, by omega, HF.out.2.2.1, HF.out.2.2.2, rfl, rfl, rfl, ⟨HF.out.1, HF.out.2.1⟩, HX4, HR4, HA4, HB4⟩
  case round =>
    clear HX3 HR3 HA3 HB3 HX2 HR2 HB2 HX1 HB1 HX4 HR4 HA4 HB4 HF HL1 HL2 HHL CM CN0 CA
    obtain ⟨wr2, rfl⟩ : ∃ x, x = wr := ⟨wr, rfl⟩
    obtain ⟨i, v, last, hi, hv1, hv2, rfl, rfl, rfl, HI, HX, HR, HA, HB⟩ := hrel
    obtain ⟨x0, x1, x2⟩ := HX.out
    by_cases hv0 : v = 0
    · subst hv0
      have hi2 : i = (ded V).length := by
        rcases HI.out.1 with ⟨_, h⟩ | ⟨h, _⟩
        · exact h
        · omega
      have HI2 := Aside0.mk hi2
      have HB2 := HB
      have HA2 := HA
      have HOM := Aside0.mk (World.ownsMap_made (H := Unit) wr2 Try.prog 3 (plainElem Try.prog 4))
      clear hi2 HI HX HR HA HB x0 x1 x2 HO HQ
      go_wp2_with fail
      go_loopw [15] (fun x wm => ∃ j : Nat, j ≤ m ∧ x = .int .i64 j ∧ Aside0 (wm.ownsMap Try.prog 3 (plainElem (H := Unit) Try.prog 4) wr2.heap.size j (Maps.setOf (.lit (.bool true)) ((V.take j).map (Lit.int .i64)))) ∧ Aside0 (Below wr2.heap.size wr2 wm)) (fun x _ => m - (intOf x).toNat)
      case atStart => exact ⟨0, by omega, rfl, HOM, ⟨below_alloc (Below.refl _ _) _⟩⟩
      case round =>
        obtain ⟨wm, rfl⟩ : ∃ x, x = wr := ⟨wr, rfl⟩
        obtain ⟨j, hj, rfl, HW1, HBW⟩ := hrel
        have law := Maps.int_keyed (P := Try.prog) Try.underlying3
        by_cases hlt : j < m
        · obtain ⟨ad, rfl, k0, k1, k2⟩ := at3_of (Kd.C_below HA2.out HBW.out) j hlt z
          obtain ⟨t, ht⟩ : ∃ t, t = a.getD j z := ⟨_, rfl⟩
          have hvt := HVT.out j hlt
          rw [← ht] at k0 k1 k2 hvt
          have hwf : (Lit.int .i64 t.o).wf = true := by
            have hmem : t.at 2 ∈ V := List.mem_of_mem_take (i := j + 1) (by rw [hvt]; simp)
            have := HVW.out _ hmem
            exact wf_mk (show (-9223372036854775808 : Int) ≤ t.at 2 by omega) (show t.at 2 ≤ 9223372036854775807 by omega)
          have hkey := Maps.keyOf_int_mk (P := Try.prog) Try.underlying3 hwf
          have hi2 : (0 : Int) ≤ (j : Int) := by omega
          have hi3 : (j : Int) < (m : Int) := by omega
          have hsn := Maps.setOf_snoc (H := Unit) (.lit (.bool true)) ((V.take j).map (Lit.int .i64)) (.int .i64 t.o)
          have HSN : Aside0 (Maps.setOf (.lit (.bool true)) ((V.take (j + 1)).map (Lit.int .i64)) = (Maps.setOf (.lit (.bool true)) ((V.take j).map (Lit.int .i64))).put (.int .i64 t.o) (DataW.lit (H := Unit) (.bool true))) := ⟨by
            rw [hvt, List.map_append]; exact hsn⟩
          clear hwf hvt ht hsn
          go_wp2_with (first
            | (at_mapUpdate; refine wpList_mapUpdate_own _ rfl _ _ _ 66 rfl 3 4 law Try.underlying66 _ wr2.heap.size j _ rfl HW1.out (by unfold maxLen; omega) _ _ _ rfl rfl hkey _ [] (plainElem_bool Try.underlying4 true) ?_; intro w5 hown5 hgrow5; have HW5 := Aside0.mk hown5; have HB5 := Aside0.mk (pw_below_grown HBW.out _ HBW.out.size hgrow5 (fun k' hk => Nat.le_of_eq (Option.some.inj hk))); clear hown5 hgrow5 hkey))
          go_roundw
          case rel => exact ⟨j + 1, by omega, by go_num, ⟨by rw [HSN.out]; exact HW5.out⟩, HB5⟩
          case measure => simp [intOf]; omega
        · have hjm : j = m := by omega
          subst hjm
          obtain ⟨D, hD⟩ : ∃ D : DataW Unit, D = Maps.setOf (.lit (.bool true)) ((V.take j).map (Lit.int .i64)) := ⟨_, rfl⟩
          have hs : Maps.size D = i := by
            rw [hD, HI2.out, ← HVL.out, List.take_length]; exact set_size _ V
          have HWD : Aside0 (wm.ownsMap Try.prog 3 (plainElem (H := Unit) Try.prog 4) wr2.heap.size j D) := ⟨by rw [hD]; exact HW1.out⟩
          have HS := Aside0.mk hs
          have HB6 := Aside0.mk (below_two' HB2.out HBW.out)
          clear hD hs HW1 HI2 HVL HVT HVW law HM
          go_wp2_with (first
            | (at_len; refine wpList_len_own _ rfl (.tmp 106) 66 rfl 3 4 Try.underlying66 _ wr2.heap.size j D rfl HWD.out ?_; rw [HS.out])
            | (go_at_call 47; (with_reducible refine (CK.out _).mono ?_); rintro e w7 ⟨rfl, hb⟩; have HB7 := Aside0.mk (below_step HB6.out hb); clear hb))
          go_ret
          exact ⟨rfl, HB7.out⟩
    · have hvb : (v == 0) = false := by simpa using hv0
      have hvn : (v != 0) = true := by simpa using hv0
      obtain ⟨HON, HOL, HO0, HO1⟩ := HO.out v i HI.out.1 hv0
      obtain ⟨HQ1, HQ2⟩ := HQ.out v i HI.out.1 hv0
      have hlt := next_less HI.out.1 hv0
      rw [HVL.out] at hlt
      have hlast : last < v := HI.out.2 hv0
      have hin : (i : Int) ≤ (n : Int) := by omega
      have HON := Aside0.mk HON
      have HOL := Aside0.mk HOL
      obtain ⟨cq, hcq⟩ : ∃ cq : Int, cq = ((allL l ⟨p.s, p.p, v⟩).length : Int) := ⟨_, rfl⟩
      have hcq1 : 1 ≤ cq := by omega
      have CCQ : Aside0 (∀ W, IsRing W (.pointer (some ⟨rb, 0, none⟩)) l → Calls Try.prog 50 #[.pointer (some ⟨rb, 0, none⟩), .agg #[.int .i64 p.s, .int .i64 p.p, .int .i64 v]] W fun e w' => e = .returned (.int .i64 cq) ∧ Below W.heap.size W w') := ⟨fun W h => by
        rw [hcq]; exact CC.out _ ⟨p.s, p.p, v⟩ W h⟩
      have hv3 : 1 ≤ v := by omega
      clear hcq HQ1 HI HO HQ
      rcases HQ2 with HQ2 | HQ2
      · have hp0 : (p.o != 0) = false := by simp [HQ2]
        clear HQ2 hv0
        go_wp2_with (first
          | (go_at_call 50; (with_reducible refine (CCQ.out _ ?hr).mono ?_); (case hr => exact HR.out.below (below_alloc (Below.refl _ _) _)); rintro e w5 ⟨rfl, hb⟩; have HB5 := Aside0.mk (below_step (below_alloc HB.out _) hb); have HX5 := Aside0.mk ((HX.out.below (below_alloc (Below.refl _ _) _)).below hb); have HR5 := Aside0.mk ((HR.out.below (below_alloc (Below.refl _ _) _)).below hb); have HA5 := Aside0.mk (Kd.C_below (Kd.C_alloc HA.out _) hb); clear hb; obtain ⟨y0, y1, y2⟩ := HX5.out)
          | (go_at_call 53; (with_reducible refine (CX.out _ _ _ HR5.out).mono ?_); rintro e w6 ⟨rfl, hb⟩; have HB6 := Aside0.mk (below_step HB5.out hb); have HX6 := Aside0.mk (HX5.out.below hb); have HR6 := Aside0.mk (HR5.out.below hb); have HA6 := Aside0.mk (Kd.C_below HA5.out hb); clear hb))
        go_roundw
        case rel => exact ⟨i + 1, _, v, by omega, HO0, HO1, by go_num, rfl, rfl, ⟨HON.out, HOL.out⟩, HX6, HR6, HA6, HB6⟩
        case measure => simp [intOf]; omega
      · by_cases hp0 : p.o = 0
        · omega
        · have hp1 : (p.o != 0) = true := by simpa using hp0
          have hp2 : (p.o != v) = false := by simp [HQ2]
          clear hp0 HQ2 hv0
          go_wp2_with (first
            | (go_at_call 50; (with_reducible refine (CCQ.out _ ?hr).mono ?_); (case hr => exact HR.out.below (below_alloc (Below.refl _ _) _)); rintro e w5 ⟨rfl, hb⟩; have HB5 := Aside0.mk (below_step (below_alloc HB.out _) hb); have HX5 := Aside0.mk ((HX.out.below (below_alloc (Below.refl _ _) _)).below hb); have HR5 := Aside0.mk ((HR.out.below (below_alloc (Below.refl _ _) _)).below hb); have HA5 := Aside0.mk (Kd.C_below (Kd.C_alloc HA.out _) hb); clear hb; obtain ⟨y0, y1, y2⟩ := HX5.out)
            | (go_at_call 53; (with_reducible refine (CX.out _ _ _ HR5.out).mono ?_); rintro e w6 ⟨rfl, hb⟩; have HB6 := Aside0.mk (below_step HB5.out hb); have HX6 := Aside0.mk (HX5.out.below hb); have HR6 := Aside0.mk (HR5.out.below hb); have HA6 := Aside0.mk (Kd.C_below HA5.out hb); clear hb))
          go_roundw
          case rel => exact ⟨i + 1, _, v, by omega, HO0, HO1, by go_num, rfl, rfl, ⟨HON.out, HOL.out⟩, HX6, HR6, HA6, HB6⟩
          case measure => simp [intOf]; omega
theorem nxt_law (A : Option Addr) (c : Nat) (l : List Tri) (p : Tri) (col : Int) (w : World) (hr : Kd.C kT w A l.length l) (_hc : l.length ≤ c) (_hw : ∀ t ∈ l, t.wf) (_hp : p.wf) (_h1 : (Lit.int .i64 col).wf = true) :
    Calls Try.prog 15 #[.slice A l.length c, p.val, .int .i64 col] w fun e w' => e = .returned (.bool true) ∧ Below w.heap.size w w' := by
  by_cases hl : 60 < l.length
  · exact nxt_long A c l p col w hl
  · cases hm : mayB l with
    | false => exact nxt_no A c l p col w hr (by omega) hm
    | true =>
      by_cases h0 : col = 0
      · rw [h0]; exact nxt_0 A c l p w hr (by omega) hm
      by_cases h1 : col = 1
      · rw [h1]; exact nxt_1 A c l p w hr (by omega) hm
      by_cases h2 : col = 2
      · rw [h2]; exact nxt_2 A c l p w hr (by omega) hm
      exact nxt_col A c l p col w hr (by omega) hm (by omega)
end Go.Proofs.Ytdijaobhijmknaa.Rg
