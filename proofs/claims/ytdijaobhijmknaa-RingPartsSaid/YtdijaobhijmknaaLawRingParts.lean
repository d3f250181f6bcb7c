/- The law RingParts: those that match are those that match with one more number asked, over all such numbers. -/
import Derived.Test.YtdijaobhijmknaaRingQ
import Derived.Test.YtdijaobhijmknaaOpenT
import Derived.Maps.OwnOps
set_option linter.unusedSimpArgs false
set_option linter.unusedVariables false
namespace Go.Proofs.Ytdijaobhijmknaa.Rg
open Go Go.RowKit Go.Proofs.YtdijaobhijmknaaW.PrintWords Go.Proofs.YtdijaobhijmknaaW.PrintLast Go.Proofs.YtdijaobhijmknaaW.PrintMore
attribute [local go_sem] max2_int min2_int max_two min_two
theorem prt_long (A : Option Addr) (c : Nat) (l : List Tri) (p : Tri) (col : Int) (w : World) (hl : 60 < l.length) :
    Calls Try.prog 16 #[.slice A l.length c, p.val, .int .i64 col] w fun e w' => e = .returned (.bool true) ∧ Below w.heap.size w w' := by
  have hl2 : (60 : Int) < (l.length : Int) := by omega
  unfold Tri.val
  clear hl
  go_enter Try.func16, Try.ntmps16
  go_wp2_with fail
  go_ret
  exact ⟨rfl, below_alloc (Below.refl _ _) _⟩
theorem prt_no (A : Option Addr) (c : Nat) (l : List Tri) (p : Tri) (col : Int) (w : World) (hr : Kd.C kT w A l.length l) (hl : l.length ≤ 60) (hm : mayB l = false) :
    Calls Try.prog 16 #[.slice A l.length c, p.val, .int .i64 col] w fun e w' => e = .returned (.bool true) ∧ Below w.heap.size w w' := by
  obtain ⟨wb, hwb, HX0, HW, HWS⟩ := boxed_world w p 54
  have CM := Aside0.mk (refMay_any A c l wb (Kd.C_below hr HW.out) (by omega))
  rw [hm] at CM
  obtain ⟨n, hn⟩ : ∃ n, n = l.length := ⟨_, rfl⟩
  rw [← hn] at CM hl ⊢
  have hl2 : (n : Int) ≤ 60 := by omega
  unfold Tri.val
  rw [hwb] at CM HW
  clear hr hn hm hl hwb HX0 HWS
  go_enter Try.func16, Try.ntmps16
  go_wp2_with (first
    | (go_at_call 46; (with_reducible refine CM.out.mono ?_); rintro e w2 ⟨rfl, hb⟩; have HB2 := Aside0.mk (below_step HW.out hb); clear hb))
  go_ret
  exact ⟨rfl, HB2.out⟩
theorem prt_col (A : Option Addr) (c : Nat) (l : List Tri) (p : Tri) (col : Int) (w : World) (hr : Kd.C kT w A l.length l) (hl : l.length ≤ 60) (hm : mayB l = true) (hc : col < 0 ∨ 2 < col) :
    Calls Try.prog 16 #[.slice A l.length c, p.val, .int .i64 col] w fun e w' => e = .returned (.bool true) ∧ Below w.heap.size w w' := by
  obtain ⟨wb, hwb, HX0, HW, HWS⟩ := boxed_world w p 54
  have CM := Aside0.mk (refMay_any A c l wb (Kd.C_below hr HW.out) (by omega))
  rw [hm] at CM
  obtain ⟨n, hn⟩ : ∃ n, n = l.length := ⟨_, rfl⟩
  rw [← hn] at CM hl ⊢
  have hl2 : (n : Int) ≤ 60 := by omega
  unfold Tri.val
  rw [hwb] at CM HW
  clear hr hn hm hl hwb HX0 HWS
  rcases hc with hc | hc
  · go_enter Try.func16, Try.ntmps16
    go_wp2_with (first
      | (go_at_call 46; (with_reducible refine CM.out.mono ?_); rintro e w2 ⟨rfl, hb⟩; have HB2 := Aside0.mk (below_step HW.out hb); clear hb))
    go_ret
    exact ⟨rfl, HB2.out⟩
  · have hc2 : 0 ≤ col := by omega
    go_enter Try.func16, Try.ntmps16
    go_wp2_with (first
      | (go_at_call 46; (with_reducible refine CM.out.mono ?_); rintro e w2 ⟨rfl, hb⟩; have HB2 := Aside0.mk (below_step HW.out hb); clear hb))
    go_ret
    exact ⟨rfl, HB2.out⟩
set_option maxRecDepth 100000 in
set_option maxHeartbeats 4000000 in
theorem prt_0n (A : Option Addr) (c : Nat) (l : List Tri) (p : Tri) (w : World) (hr : Kd.C kT w A l.length l) (hl : l.length ≤ 60) (hm : mayB l = true) (hp : ¬ p.s = 0) :
    Calls Try.prog 16 #[.slice A l.length c, p.val, .int .i64 0] w fun e w' => e = .returned (.bool true) ∧ Below w.heap.size w w' := by
  obtain ⟨wb, hwb, HX0, HW, HWS⟩ := boxed_world w p 54
  have CM := Aside0.mk (refMay_any A c l wb (Kd.C_below hr HW.out) (by omega))
  rw [hm] at CM
  obtain ⟨n, hn⟩ : ∃ n, n = l.length := ⟨_, rfl⟩
  rw [← hn] at CM hl ⊢
  have hl2 : (n : Int) ≤ 60 := by omega
  have hp1 : (p.s != 0) = true := by simpa using hp
  unfold Tri.val
  rw [hwb] at CM HW HX0
  clear hr hn hm hl hwb HWS hp
  go_enter Try.func16, Try.ntmps16
  go_wp2_with (first
    | (go_at_call 46; (with_reducible refine CM.out.mono ?_); rintro e w2 ⟨rfl, hb⟩; have HB2 := Aside0.mk (below_step HW.out hb); have HX2 := Aside0.mk (HX0.out.below hb); obtain ⟨x0, x1, x2⟩ := HX2.out; clear hb))
  go_ret
  exact ⟨rfl, HB2.out⟩
set_option maxRecDepth 100000 in
set_option maxHeartbeats 4000000 in
theorem prt_0 (A : Option Addr) (c : Nat) (l : List Tri) (p : Tri) (w : World) (hr : Kd.C kT w A l.length l) (hl : l.length ≤ 60) (hm : mayB l = true) :
    Calls Try.prog 16 #[.slice A l.length c, p.val, .int .i64 0] w fun e w' => e = .returned (.bool true) ∧ Below w.heap.size w w' := by
  by_cases hp : p.s = 0
  rotate_left 1
  · exact prt_0n A c l p w hr hl hm hp
  obtain ⟨wb, hwb, HX0, HW, HWS⟩ := boxed_world w p 54
  have HL0 := Kd.C_below hr HW.out
  have CM := Aside0.mk (refMay_any A c l wb HL0 (by omega))
  rw [hm] at CM
  have CN0 := Aside0.mk (fun W (h : Kd.C kT W A l.length l) => new_ok A c l W h hm)
  obtain ⟨f, hf⟩ : ∃ f : Int → Int, f = fun v => nextT l p 0 v := ⟨_, rfl⟩
  have hfe : ∀ v, nextC l p 0 v = f v := fun v => by rw [hf]; rfl
  have CX : Aside0 (∀ (r : Value) (v : Int) W, IsRing W r l → Calls Try.prog 53 #[r, p.val, .int .i64 0, .int .i64 v] W fun e w' => e = .returned (.int .i64 (f v)) ∧ Below W.heap.size W w') := ⟨fun r v W h => by
    have := next_any (r := r) p 0 v l W h (by omega)
    rwa [hfe] at this⟩
  have CC : Aside0 (∀ (r : Value) (q : Tri) W, IsRing W r l → Calls Try.prog 50 #[r, q.val] W fun e w' => e = .returned (.int .i64 ((allL l q).length : Int)) ∧ Below W.heap.size W w') := ⟨fun r q W h => ring_count (r := r) q l W h.l (by omega)⟩
  obtain ⟨ca, hca⟩ : ∃ ca, ca = (allL l p).length := ⟨_, rfl⟩
  have CP : Aside0 (∀ (r : Value) W, IsRing W r l → Calls Try.prog 50 #[r, p.val] W fun e w' => e = .returned (.int .i64 (ca : Int)) ∧ Below W.heap.size W w') := ⟨fun r W h => by
    rw [hca]; exact ring_count (r := r) p l W h.l (by omega)⟩
  obtain ⟨V, hV⟩ : ∃ V, V = vals (allL l p) 0 := ⟨_, rfl⟩
  have HF : Aside0 (NextI V (f 0) 0 ∧ SumI (allL l p) 0 (f 0) 0 ∧ 0 ≤ f 0 ∧ f 0 ≤ 1000) := ⟨by
    rw [hV, hf]; exact ⟨(next_first p hm (by decide)).1, sum_first p hm (by decide), next_bd p _ hm (by decide)⟩⟩
  have HO : Aside0 (∀ v n s, NextI V v n → SumI (allL l p) 0 v s → v ≠ 0 → NextI V (f (v + 1)) (n + 1) ∧ SumI (allL l p) 0 (f (v + 1)) (s + (allL l ⟨v, p.p, p.o⟩).length) ∧ 0 ≤ f (v + 1) ∧ f (v + 1) ≤ 1000 ∧ s + (allL l ⟨v, p.p, p.o⟩).length ≤ l.length) := ⟨fun v n s h hs hv => by
    rw [hV] at *; rw [hf]; exact ⟨(next_on p hm (by decide) h hv).1, sum_on hm (by decide) hp hs hv, (next_bd p _ hm (by decide)).1, (next_bd p _ hm (by decide)).2, count_le (p := p) (col := 0) (by decide) hp hv hs⟩⟩
  have HVL : Aside0 (V.length ≤ l.length) := ⟨by rw [hV, vals_len]; exact allL_len l p⟩
  have HSZ : Aside0 (∀ s, SumI (allL l p) 0 0 s → s = ca) := ⟨fun s h => by
    rcases h with ⟨_, h⟩ | ⟨h, _⟩
    · rw [hca]; exact h
    · exact absurd rfl h⟩
  have CK := Aside0.mk known_any
  have hp0 : (p.s != 0) = false := by simp [hp]
  obtain ⟨n, hn⟩ : ∃ n, n = l.length := ⟨_, rfl⟩
  rw [← hn] at CN0 CM hl HL0 HVL HO ⊢
  have hl2 : (n : Int) ≤ 60 := by omega
  have HHL := Aside0.mk HL0
  unfold Tri.val at *
  rw [hwb] at CM HW HX0 HHL
  clear hr hn hm hwb HWS HL0 hV hf hfe hp hca
  go_enter Try.func16, Try.ntmps16
  go_wp2_with (first
    | (go_at_call 46; (with_reducible refine CM.out.mono ?_); rintro e w1 ⟨rfl, hb⟩; have HB1 := Aside0.mk (below_step HW.out hb); have HX1 := Aside0.mk (HX0.out.below hb); have HL1 := Aside0.mk (Kd.C_below HHL.out hb); obtain ⟨x0, x1, x2⟩ := HX1.out; clear hb)
    | (go_at_call 45; (with_reducible refine (CN0.out _ HL1.out).mono ?_); rintro e w2 ⟨r, rfl, hr, _, hb⟩; have HB2 := Aside0.mk (below_step HB1.out hb); have HX2 := Aside0.mk (HX1.out.below hb); have HR2 := Aside0.mk hr; obtain ⟨rb, e5⟩ := hr.ptr; subst e5; clear x0 x1 x2; obtain ⟨x0, x1, x2⟩ := HX2.out; clear hb hr)
    | (go_at_call 53; (with_reducible refine (CX.out _ _ _ HR2.out).mono ?_); rintro e w4 ⟨rfl, hb⟩; have HB4 := Aside0.mk (below_step HB2.out hb); have HX4 := Aside0.mk (HX2.out.below hb); have HR4 := Aside0.mk (HR2.out.below hb); clear hb x0 x1 x2))
  go_loopw [9, 10, 11] (fun s9 s10 s11 wr => ∃ (s i : Nat) (v : Int), s ≤ 60 ∧ i ≤ 60 ∧ 0 ≤ v ∧ v ≤ 1000 ∧ s9 = .int .i64 s ∧ s10 = .int .i64 i ∧ s11 = .int .i64 v ∧ Aside0 (NextI V v i ∧ SumI (allL l p) 0 v s) ∧ Aside0 (Boxed wr w.heap.size p) ∧ Aside0 (IsRing wr (.pointer (some ⟨rb, 0, none⟩)) l) ∧ Aside0 (Below w.heap.size w wr)) (fun _ s _ _ => 61 - (intOf s).toNat)
  case atStart => exact ⟨0, 0, f 0, by omega, by omega, HF.out.2.2.1, HF.out.2.2.2, rfl, rfl, rfl, ⟨HF.out.1, HF.out.2.1⟩, HX4, HR4, HB4⟩
  case round =>
    clear HR2 HB2 HX1 HB1 HX2 HX4 HR4 HB4 HF HL1 HHL CM CN0
    obtain ⟨wr2, rfl⟩ : ∃ x, x = wr := ⟨wr, rfl⟩
    obtain ⟨s, i, v, hs, hi, hv1, hv2, rfl, rfl, rfl, HI, HX, HR, HB⟩ := hrel
    obtain ⟨x0, x1, x2⟩ := HX.out
    by_cases hv0 : v = 0
    · subst hv0
      obtain rfl := HSZ.out s HI.out.2
      clear HI HO
      go_wp2_with (first
        | (go_at_call 50; (with_reducible refine (CP.out _ _ HR.out).mono ?_); rintro e w5 ⟨rfl, hb⟩; have HB5 := Aside0.mk (below_step HB.out hb); clear hb)
        | (go_at_call 47; (with_reducible refine (CK.out _).mono ?_); rintro e w7 ⟨rfl, hb⟩; have HB7 := Aside0.mk (below_step HB5.out hb); clear hb))
      go_ret
      exact ⟨rfl, HB7.out⟩
    · have hvb : (v == 0) = false := by simpa using hv0
      have hvn : (v != 0) = true := by simpa using hv0
      obtain ⟨HON, HOS, HO0, HO1, HO2⟩ := HO.out v i s HI.out.1 HI.out.2 hv0
      have hlt := next_less HI.out.1 hv0
      have hll := HVL.out
      have hin : (i : Int) ≤ (n : Int) := by omega
      have HON := Aside0.mk HON
      obtain ⟨cq, hcq⟩ : ∃ cq, cq = (allL l ⟨v, p.p, p.o⟩).length := ⟨_, rfl⟩
      rw [← hcq] at HOS HO2
      have HOS := Aside0.mk HOS
      have CCQ : Aside0 (∀ W, IsRing W (.pointer (some ⟨rb, 0, none⟩)) l → Calls Try.prog 50 #[.pointer (some ⟨rb, 0, none⟩), .agg #[.int .i64 v, .int .i64 p.p, .int .i64 p.o]] W fun e w' => e = .returned (.int .i64 (cq : Int)) ∧ Below W.heap.size W w') := ⟨fun W h => by
        rw [hcq]; exact CC.out _ ⟨v, p.p, p.o⟩ W h⟩
      have hv3 : 1 ≤ v := by omega
      clear hcq HI HO hv0
      go_wp2_with (first
        | (go_at_call 50; (with_reducible refine (CCQ.out _ ?hr).mono ?_); (case hr => exact HR.out.below (below_alloc (Below.refl _ _) _)); rintro e w5 ⟨rfl, hb⟩; have HB5 := Aside0.mk (below_step (below_alloc HB.out _) hb); have HX5 := Aside0.mk ((HX.out.below (below_alloc (Below.refl _ _) _)).below hb); have HR5 := Aside0.mk ((HR.out.below (below_alloc (Below.refl _ _) _)).below hb); clear hb; obtain ⟨y0, y1, y2⟩ := HX5.out)
        | (go_at_call 53; (with_reducible refine (CX.out _ _ _ HR5.out).mono ?_); rintro e w6 ⟨rfl, hb⟩; have HB6 := Aside0.mk (below_step HB5.out hb); have HX6 := Aside0.mk (HX5.out.below hb); have HR6 := Aside0.mk (HR5.out.below hb); clear hb))
      go_roundw
      case rel => exact ⟨s + cq, i + 1, _, by omega, by omega, HO0, HO1, by go_num, by go_num, rfl, ⟨HON.out, HOS.out⟩, HX6, HR6, HB6⟩
      case measure => simp [intOf]; omega
set_option maxRecDepth 100000 in
set_option maxHeartbeats 4000000 in
theorem prt_1n (A : Option Addr) (c : Nat) (l : List Tri) (p : Tri) (w : World) (hr : Kd.C kT w A l.length l) (hl : l.length ≤ 60) (hm : mayB l = true) (hp : ¬ p.p = 0) :
    Calls Try.prog 16 #[.slice A l.length c, p.val, .int .i64 1] w fun e w' => e = .returned (.bool true) ∧ Below w.heap.size w w' := by
  obtain ⟨wb, hwb, HX0, HW, HWS⟩ := boxed_world w p 54
  have CM := Aside0.mk (refMay_any A c l wb (Kd.C_below hr HW.out) (by omega))
  rw [hm] at CM
  obtain ⟨n, hn⟩ : ∃ n, n = l.length := ⟨_, rfl⟩
  rw [← hn] at CM hl ⊢
  have hl2 : (n : Int) ≤ 60 := by omega
  have hp1 : (p.p != 0) = true := by simpa using hp
  unfold Tri.val
  rw [hwb] at CM HW HX0
  clear hr hn hm hl hwb HWS hp
  go_enter Try.func16, Try.ntmps16
  go_wp2_with (first
    | (go_at_call 46; (with_reducible refine CM.out.mono ?_); rintro e w2 ⟨rfl, hb⟩; have HB2 := Aside0.mk (below_step HW.out hb); have HX2 := Aside0.mk (HX0.out.below hb); obtain ⟨x0, x1, x2⟩ := HX2.out; clear hb))
  go_ret
  exact ⟨rfl, HB2.out⟩
set_option maxRecDepth 100000 in
set_option maxHeartbeats 4000000 in
theorem prt_1 (A : Option Addr) (c : Nat) (l : List Tri) (p : Tri) (w : World) (hr : Kd.C kT w A l.length l) (hl : l.length ≤ 60) (hm : mayB l = true) :
    Calls Try.prog 16 #[.slice A l.length c, p.val, .int .i64 1] w fun e w' => e = .returned (.bool true) ∧ Below w.heap.size w w' := by
  by_cases hp : p.p = 0
  rotate_left 1
  · exact prt_1n A c l p w hr hl hm hp
  obtain ⟨wb, hwb, HX0, HW, HWS⟩ := boxed_world w p 54
  have HL0 := Kd.C_below hr HW.out
  have CM := Aside0.mk (refMay_any A c l wb HL0 (by omega))
  rw [hm] at CM
  have CN0 := Aside0.mk (fun W (h : Kd.C kT W A l.length l) => new_ok A c l W h hm)
  obtain ⟨f, hf⟩ : ∃ f : Int → Int, f = fun v => nextT l p 1 v := ⟨_, rfl⟩
  have hfe : ∀ v, nextC l p 1 v = f v := fun v => by rw [hf]; rfl
  have CX : Aside0 (∀ (r : Value) (v : Int) W, IsRing W r l → Calls Try.prog 53 #[r, p.val, .int .i64 1, .int .i64 v] W fun e w' => e = .returned (.int .i64 (f v)) ∧ Below W.heap.size W w') := ⟨fun r v W h => by
    have := next_any (r := r) p 1 v l W h (by omega)
    rwa [hfe] at this⟩
  have CC : Aside0 (∀ (r : Value) (q : Tri) W, IsRing W r l → Calls Try.prog 50 #[r, q.val] W fun e w' => e = .returned (.int .i64 ((allL l q).length : Int)) ∧ Below W.heap.size W w') := ⟨fun r q W h => ring_count (r := r) q l W h.l (by omega)⟩
  obtain ⟨ca, hca⟩ : ∃ ca, ca = (allL l p).length := ⟨_, rfl⟩
  have CP : Aside0 (∀ (r : Value) W, IsRing W r l → Calls Try.prog 50 #[r, p.val] W fun e w' => e = .returned (.int .i64 (ca : Int)) ∧ Below W.heap.size W w') := ⟨fun r W h => by
    rw [hca]; exact ring_count (r := r) p l W h.l (by omega)⟩
  obtain ⟨V, hV⟩ : ∃ V, V = vals (allL l p) 1 := ⟨_, rfl⟩
  have HF : Aside0 (NextI V (f 0) 0 ∧ SumI (allL l p) 1 (f 0) 0 ∧ 0 ≤ f 0 ∧ f 0 ≤ 1000) := ⟨by
    rw [hV, hf]; exact ⟨(next_first p hm (by decide)).1, sum_first p hm (by decide), next_bd p _ hm (by decide)⟩⟩
  have HO : Aside0 (∀ v n s, NextI V v n → SumI (allL l p) 1 v s → v ≠ 0 → NextI V (f (v + 1)) (n + 1) ∧ SumI (allL l p) 1 (f (v + 1)) (s + (allL l ⟨p.s, v, p.o⟩).length) ∧ 0 ≤ f (v + 1) ∧ f (v + 1) ≤ 1000 ∧ s + (allL l ⟨p.s, v, p.o⟩).length ≤ l.length) := ⟨fun v n s h hs hv => by
    rw [hV] at *; rw [hf]; exact ⟨(next_on p hm (by decide) h hv).1, sum_on hm (by decide) hp hs hv, (next_bd p _ hm (by decide)).1, (next_bd p _ hm (by decide)).2, count_le (p := p) (col := 1) (by decide) hp hv hs⟩⟩
  have HVL : Aside0 (V.length ≤ l.length) := ⟨by rw [hV, vals_len]; exact allL_len l p⟩
  have HSZ : Aside0 (∀ s, SumI (allL l p) 1 0 s → s = ca) := ⟨fun s h => by
    rcases h with ⟨_, h⟩ | ⟨h, _⟩
    · rw [hca]; exact h
    · exact absurd rfl h⟩
  have CK := Aside0.mk known_any
  have hp0 : (p.p != 0) = false := by simp [hp]
  obtain ⟨n, hn⟩ : ∃ n, n = l.length := ⟨_, rfl⟩
  rw [← hn] at CN0 CM hl HL0 HVL HO ⊢
  have hl2 : (n : Int) ≤ 60 := by omega
  have HHL := Aside0.mk HL0
  unfold Tri.val at *
  rw [hwb] at CM HW HX0 HHL
  clear hr hn hm hwb HWS HL0 hV hf hfe hp hca
  go_enter Try.func16, Try.ntmps16
  go_wp2_with (first
    | (go_at_call 46; (with_reducible refine CM.out.mono ?_); rintro e w1 ⟨rfl, hb⟩; have HB1 := Aside0.mk (below_step HW.out hb); have HX1 := Aside0.mk (HX0.out.below hb); have HL1 := Aside0.mk (Kd.C_below HHL.out hb); obtain ⟨x0, x1, x2⟩ := HX1.out; clear hb)
    | (go_at_call 45; (with_reducible refine (CN0.out _ HL1.out).mono ?_); rintro e w2 ⟨r, rfl, hr, _, hb⟩; have HB2 := Aside0.mk (below_step HB1.out hb); have HX2 := Aside0.mk (HX1.out.below hb); have HR2 := Aside0.mk hr; obtain ⟨rb, e5⟩ := hr.ptr; subst e5; clear x0 x1 x2; obtain ⟨x0, x1, x2⟩ := HX2.out; clear hb hr)
    | (go_at_call 53; (with_reducible refine (CX.out _ _ _ HR2.out).mono ?_); rintro e w4 ⟨rfl, hb⟩; have HB4 := Aside0.mk (below_step HB2.out hb); have HX4 := Aside0.mk (HX2.out.below hb); have HR4 := Aside0.mk (HR2.out.below hb); clear hb x0 x1 x2))
  go_loopw [9, 10, 11] (fun s9 s10 s11 wr => ∃ (s i : Nat) (v : Int), s ≤ 60 ∧ i ≤ 60 ∧ 0 ≤ v ∧ v ≤ 1000 ∧ s9 = .int .i64 s ∧ s10 = .int .i64 i ∧ s11 = .int .i64 v ∧ Aside0 (NextI V v i ∧ SumI (allL l p) 1 v s) ∧ Aside0 (Boxed wr w.heap.size p) ∧ Aside0 (IsRing wr (.pointer (some ⟨rb, 0, none⟩)) l) ∧ Aside0 (Below w.heap.size w wr)) (fun _ s _ _ => 61 - (intOf s).toNat)
  case atStart => exact ⟨0, 0, f 0, by omega, by omega, HF.out.2.2.1, HF.out.2.2.2, rfl, rfl, rfl, ⟨HF.out.1, HF.out.2.1⟩, HX4, HR4, HB4⟩
  case round =>
    clear HR2 HB2 HX1 HB1 HX2 HX4 HR4 HB4 HF HL1 HHL CM CN0
    obtain ⟨wr2, rfl⟩ : ∃ x, x = wr := ⟨wr, rfl⟩
    obtain ⟨s, i, v, hs, hi, hv1, hv2, rfl, rfl, rfl, HI, HX, HR, HB⟩ := hrel
    obtain ⟨x0, x1, x2⟩ := HX.out
    by_cases hv0 : v = 0
    · subst hv0
      obtain rfl := HSZ.out s HI.out.2
      clear HI HO
      go_wp2_with (first
        | (go_at_call 50; (with_reducible refine (CP.out _ _ HR.out).mono ?_); rintro e w5 ⟨rfl, hb⟩; have HB5 := Aside0.mk (below_step HB.out hb); clear hb)
        | (go_at_call 47; (with_reducible refine (CK.out _).mono ?_); rintro e w7 ⟨rfl, hb⟩; have HB7 := Aside0.mk (below_step HB5.out hb); clear hb))
      go_ret
      exact ⟨rfl, HB7.out⟩
    · have hvb : (v == 0) = false := by simpa using hv0
      have hvn : (v != 0) = true := by simpa using hv0
      obtain ⟨HON, HOS, HO0, HO1, HO2⟩ := HO.out v i s HI.out.1 HI.out.2 hv0
      have hlt := next_less HI.out.1 hv0
      have hll := HVL.out
      have hin : (i : Int) ≤ (n : Int) := by omega
      have HON := Aside0.mk HON
      obtain ⟨cq, hcq⟩ : ∃ cq, cq = (allL l ⟨p.s, v, p.o⟩).length := ⟨_, rfl⟩
      rw [← hcq] at HOS HO2
      have HOS := Aside0.mk HOS
      have CCQ : Aside0 (∀ W, IsRing W (.pointer (some ⟨rb, 0, none⟩)) l → Calls Try.prog 50 #[.pointer (some ⟨rb, 0, none⟩), .agg #[.int .i64 p.s, .int .i64 v, .int .i64 p.o]] W fun e w' => e = .returned (.int .i64 (cq : Int)) ∧ Below W.heap.size W w') := ⟨fun W h => by
        rw [hcq]; exact CC.out _ ⟨p.s, v, p.o⟩ W h⟩
      have hv3 : 1 ≤ v := by omega
      clear hcq HI HO hv0
      go_wp2_with (first
        | (go_at_call 50; (with_reducible refine (CCQ.out _ ?hr).mono ?_); (case hr => exact HR.out.below (below_alloc (Below.refl _ _) _)); rintro e w5 ⟨rfl, hb⟩; have HB5 := Aside0.mk (below_step (below_alloc HB.out _) hb); have HX5 := Aside0.mk ((HX.out.below (below_alloc (Below.refl _ _) _)).below hb); have HR5 := Aside0.mk ((HR.out.below (below_alloc (Below.refl _ _) _)).below hb); clear hb; obtain ⟨y0, y1, y2⟩ := HX5.out)
        | (go_at_call 53; (with_reducible refine (CX.out _ _ _ HR5.out).mono ?_); rintro e w6 ⟨rfl, hb⟩; have HB6 := Aside0.mk (below_step HB5.out hb); have HX6 := Aside0.mk (HX5.out.below hb); have HR6 := Aside0.mk (HR5.out.below hb); clear hb))
      go_roundw
      case rel => exact ⟨s + cq, i + 1, _, by omega, by omega, HO0, HO1, by go_num, by go_num, rfl, ⟨HON.out, HOS.out⟩, HX6, HR6, HB6⟩
      case measure => simp [intOf]; omega
set_option maxRecDepth 100000 in
set_option maxHeartbeats 4000000 in
theorem prt_2n (A : Option Addr) (c : Nat) (l : List Tri) (p : Tri) (w : World) (hr : Kd.C kT w A l.length l) (hl : l.length ≤ 60) (hm : mayB l = true) (hp : ¬ p.o = 0) :
    Calls Try.prog 16 #[.slice A l.length c, p.val, .int .i64 2] w fun e w' => e = .returned (.bool true) ∧ Below w.heap.size w w' := by
  obtain ⟨wb, hwb, HX0, HW, HWS⟩ := boxed_world w p 54
  have CM := Aside0.mk (refMay_any A c l wb (Kd.C_below hr HW.out) (by omega))
  rw [hm] at CM
  obtain ⟨n, hn⟩ : ∃ n, n = l.length := ⟨_, rfl⟩
  rw [← hn] at CM hl ⊢
  have hl2 : (n : Int) ≤ 60 := by omega
  have hp1 : (p.o != 0) = true := by simpa using hp
  unfold Tri.val
  rw [hwb] at CM HW HX0
  clear hr hn hm hl hwb HWS hp
  go_enter Try.func16, Try.ntmps16
  go_wp2_with (first
    | (go_at_call 46; (with_reducible refine CM.out.mono ?_); rintro e w2 ⟨rfl, hb⟩; have HB2 := Aside0.mk (below_step HW.out hb); have HX2 := Aside0.mk (HX0.out.below hb); obtain ⟨x0, x1, x2⟩ := HX2.out; clear hb))
  go_ret
  exact ⟨rfl, HB2.out⟩
set_option maxRecDepth 100000 in
set_option maxHeartbeats 4000000 in
theorem prt_2 (A : Option Addr) (c : Nat) (l : List Tri) (p : Tri) (w : World) (hr : Kd.C kT w A l.length l) (hl : l.length ≤ 60) (hm : mayB l = true) :
    Calls Try.prog 16 #[.slice A l.length c, p.val, .int .i64 2] w fun e w' => e = .returned (.bool true) ∧ Below w.heap.size w w' := by
  by_cases hp : p.o = 0
  rotate_left 1
  · exact prt_2n A c l p w hr hl hm hp
  obtain ⟨wb, hwb, HX0, HW, HWS⟩ := boxed_world w p 54
  have HL0 := Kd.C_below hr HW.out
  have CM := Aside0.mk (refMay_any A c l wb HL0 (by omega))
  rw [hm] at CM
  have CN0 := Aside0.mk (fun W (h : Kd.C kT W A l.length l) => new_ok A c l W h hm)
  obtain ⟨f, hf⟩ : ∃ f : Int → Int, f = fun v => nextT l p 2 v := ⟨_, rfl⟩
  have hfe : ∀ v, nextC l p 2 v = f v := fun v => by rw [hf]; rfl
  have CX : Aside0 (∀ (r : Value) (v : Int) W, IsRing W r l → Calls Try.prog 53 #[r, p.val, .int .i64 2, .int .i64 v] W fun e w' => e = .returned (.int .i64 (f v)) ∧ Below W.heap.size W w') := ⟨fun r v W h => by
    have := next_any (r := r) p 2 v l W h (by omega)
    rwa [hfe] at this⟩
  have CC : Aside0 (∀ (r : Value) (q : Tri) W, IsRing W r l → Calls Try.prog 50 #[r, q.val] W fun e w' => e = .returned (.int .i64 ((allL l q).length : Int)) ∧ Below W.heap.size W w') := ⟨fun r q W h => ring_count (r := r) q l W h.l (by omega)⟩
  obtain ⟨ca, hca⟩ : ∃ ca, ca = (allL l p).length := ⟨_, rfl⟩
  have CP : Aside0 (∀ (r : Value) W, IsRing W r l → Calls Try.prog 50 #[r, p.val] W fun e w' => e = .returned (.int .i64 (ca : Int)) ∧ Below W.heap.size W w') := ⟨fun r W h => by
    rw [hca]; exact ring_count (r := r) p l W h.l (by omega)⟩
  obtain ⟨V, hV⟩ : ∃ V, V = vals (allL l p) 2 := ⟨_, rfl⟩
  have HF : Aside0 (NextI V (f 0) 0 ∧ SumI (allL l p) 2 (f 0) 0 ∧ 0 ≤ f 0 ∧ f 0 ≤ 1000) := ⟨by
    rw [hV, hf]; exact ⟨(next_first p hm (by decide)).1, sum_first p hm (by decide), next_bd p _ hm (by decide)⟩⟩
  have HO : Aside0 (∀ v n s, NextI V v n → SumI (allL l p) 2 v s → v ≠ 0 → NextI V (f (v + 1)) (n + 1) ∧ SumI (allL l p) 2 (f (v + 1)) (s + (allL l ⟨p.s, p.p, v⟩).length) ∧ 0 ≤ f (v + 1) ∧ f (v + 1) ≤ 1000 ∧ s + (allL l ⟨p.s, p.p, v⟩).length ≤ l.length) := ⟨fun v n s h hs hv => by
    rw [hV] at *; rw [hf]; exact ⟨(next_on p hm (by decide) h hv).1, sum_on hm (by decide) hp hs hv, (next_bd p _ hm (by decide)).1, (next_bd p _ hm (by decide)).2, count_le (p := p) (col := 2) (by decide) hp hv hs⟩⟩
  have HVL : Aside0 (V.length ≤ l.length) := ⟨by rw [hV, vals_len]; exact allL_len l p⟩
  have HSZ : Aside0 (∀ s, SumI (allL l p) 2 0 s → s = ca) := ⟨fun s h => by
    rcases h with ⟨_, h⟩ | ⟨h, _⟩
    · rw [hca]; exact h
    · exact absurd rfl h⟩
  have CK := Aside0.mk known_any
  have hp0 : (p.o != 0) = false := by simp [hp]
  obtain ⟨n, hn⟩ : ∃ n, n = l.length := ⟨_, rfl⟩
  rw [← hn] at CN0 CM hl HL0 HVL HO ⊢
  have hl2 : (n : Int) ≤ 60 := by omega
  have HHL := Aside0.mk HL0
  unfold Tri.val at *
  rw [hwb] at CM HW HX0 HHL
  clear hr hn hm hwb HWS HL0 hV hf hfe hp hca
  go_enter Try.func16, Try.ntmps16
  go_wp2_with (first
    | (go_at_call 46; (with_reducible refine CM.out.mono ?_); rintro e w1 ⟨rfl, hb⟩; have HB1 := Aside0.mk (below_step HW.out hb); have HX1 := Aside0.mk (HX0.out.below hb); have HL1 := Aside0.mk (Kd.C_below HHL.out hb); obtain ⟨x0, x1, x2⟩ := HX1.out; clear hb)
    | (go_at_call 45; (with_reducible refine (CN0.out _ HL1.out).mono ?_); rintro e w2 ⟨r, rfl, hr, _, hb⟩; have HB2 := Aside0.mk (below_step HB1.out hb); have HX2 := Aside0.mk (HX1.out.below hb); have HR2 := Aside0.mk hr; obtain ⟨rb, e5⟩ := hr.ptr; subst e5; clear x0 x1 x2; obtain ⟨x0, x1, x2⟩ := HX2.out; clear hb hr)
    | (go_at_call 53; (with_reducible refine (CX.out _ _ _ HR2.out).mono ?_); rintro e w4 ⟨rfl, hb⟩; have HB4 := Aside0.mk (below_step HB2.out hb); have HX4 := Aside0.mk (HX2.out.below hb); have HR4 := Aside0.mk (HR2.out.below hb); clear hb x0 x1 x2))
  go_loopw [9, 10, 11] (fun s9 s10 s11 wr => ∃ (s i : Nat) (v : Int), s ≤ 60 ∧ i ≤ 60 ∧ 0 ≤ v ∧ v ≤ 1000 ∧ s9 = .int .i64 s ∧ s10 = .int .i64 i ∧ s11 = .int .i64 v ∧ Aside0 (NextI V v i ∧ SumI (allL l p) 2 v s) ∧ Aside0 (Boxed wr w.heap.size p) ∧ Aside0 (IsRing wr (.pointer (some ⟨rb, 0, none⟩)) l) ∧ Aside0 (Below w.heap.size w wr)) (fun _ s _ _ => 61 - (intOf s).toNat)
  case atStart => exact ⟨0, 0, f 0, by omega, by omega, HF.out.2.2.1, HF.out.2.2.2, rfl, rfl, rfl, ⟨HF.out.1, HF.out.2.1⟩, HX4, HR4, HB4⟩
  case round =>
    clear HR2 HB2 HX1 HB1 HX2 HX4 HR4 HB4 HF HL1 HHL CM CN0
    obtain ⟨wr2, rfl⟩ : ∃ x, x = wr := ⟨wr, rfl⟩
    obtain ⟨s, i, v, hs, hi, hv1, hv2, rfl, rfl, rfl, HI, HX, HR, HB⟩ := hrel
    obtain ⟨x0, x1, x2⟩ := HX.out
    by_cases hv0 : v = 0
    · subst hv0
      obtain rfl := HSZ.out s HI.out.2
      clear HI HO
      go_wp2_with (first
        | (go_at_call 50; (with_reducible refine (CP.out _ _ HR.out).mono ?_); rintro e w5 ⟨rfl, hb⟩; have HB5 := Aside0.mk (below_step HB.out hb); clear hb)
        | (go_at_call 47; (with_reducible refine (CK.out _).mono ?_); rintro e w7 ⟨rfl, hb⟩; have HB7 := Aside0.mk (below_step HB5.out hb); clear hb))
      go_ret
      exact ⟨rfl, HB7.out⟩
    · have hvb : (v == 0) = false := by simpa using hv0
      have hvn : (v != 0) = true := by simpa using hv0
      obtain ⟨HON, HOS, HO0, HO1, HO2⟩ := HO.out v i s HI.out.1 HI.out.2 hv0
      have hlt := next_less HI.out.1 hv0
      have hll := HVL.out
      have hin : (i : Int) ≤ (n : Int) := by omega
      have HON := Aside0.mk HON
      obtain ⟨cq, hcq⟩ : ∃ cq, cq = (allL l ⟨p.s, p.p, v⟩).length := ⟨_, rfl⟩
      rw [← hcq] at HOS HO2
      have HOS := Aside0.mk HOS
      have CCQ : Aside0 (∀ W, IsRing W (.pointer (some ⟨rb, 0, none⟩)) l → Calls Try.prog 50 #[.pointer (some ⟨rb, 0, none⟩), .agg #[.int .i64 p.s, .int .i64 p.p, .int .i64 v]] W fun e w' => e = .returned (.int .i64 (cq : Int)) ∧ Below W.heap.size W w') := ⟨fun W h => by
        rw [hcq]; exact CC.out _ ⟨p.s, p.p, v⟩ W h⟩
      have hv3 : 1 ≤ v := by omega
      clear hcq HI HO hv0
      go_wp2_with (first
        | (go_at_call 50; (with_reducible refine (CCQ.out _ ?hr).mono ?_); (case hr => exact HR.out.below (below_alloc (Below.refl _ _) _)); rintro e w5 ⟨rfl, hb⟩; have HB5 := Aside0.mk (below_step (below_alloc HB.out _) hb); have HX5 := Aside0.mk ((HX.out.below (below_alloc (Below.refl _ _) _)).below hb); have HR5 := Aside0.mk ((HR.out.below (below_alloc (Below.refl _ _) _)).below hb); clear hb; obtain ⟨y0, y1, y2⟩ := HX5.out)
        | (go_at_call 53; (with_reducible refine (CX.out _ _ _ HR5.out).mono ?_); rintro e w6 ⟨rfl, hb⟩; have HB6 := Aside0.mk (below_step HB5.out hb); have HX6 := Aside0.mk (HX5.out.below hb); have HR6 := Aside0.mk (HR5.out.below hb); clear hb))
      go_roundw
      case rel => exact ⟨s + cq, i + 1, _, by omega, by omega, HO0, HO1, by go_num, by go_num, rfl, ⟨HON.out, HOS.out⟩, HX6, HR6, HB6⟩
      case measure => simp [intOf]; omega
theorem prt_law (A : Option Addr) (c : Nat) (l : List Tri) (p : Tri) (col : Int) (w : World) (hr : Kd.C kT w A l.length l) (_hc : l.length ≤ c) (_hw : ∀ t ∈ l, t.wf) (_hp : p.wf) (_h1 : (Lit.int .i64 col).wf = true) :
    Calls Try.prog 16 #[.slice A l.length c, p.val, .int .i64 col] w fun e w' => e = .returned (.bool true) ∧ Below w.heap.size w w' := by
  by_cases hl : 60 < l.length
  · exact prt_long A c l p col w hl
  · cases hm : mayB l with
    | false => exact prt_no A c l p col w hr (by omega) hm
    | true =>
      by_cases h0 : col = 0
      · rw [h0]; exact prt_0 A c l p w hr (by omega) hm
      by_cases h1 : col = 1
      · rw [h1]; exact prt_1 A c l p w hr (by omega) hm
      by_cases h2 : col = 2
      · rw [h2]; exact prt_2 A c l p w hr (by omega) hm
      exact prt_col A c l p col w hr (by omega) hm (by omega)
end Go.Proofs.Ytdijaobhijmknaa.Rg
