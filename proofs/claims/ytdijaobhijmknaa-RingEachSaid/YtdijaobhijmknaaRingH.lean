/- The walk of DeleteFunc over triples, and of All, Count, Len. -/
import Derived.Test.YtdijaobhijmknaaRingG
import Derived.Test.YtdijaobhijmknaaWAt
set_option linter.unusedSimpArgs false
set_option linter.unusedVariables false
namespace Go.Proofs.Ytdijaobhijmknaa.Rg
open Go Go.RowKit Go.Proofs.YtdijaobhijmknaaW.PrintWords Go.Proofs.YtdijaobhijmknaaW.PrintLast Go.Proofs.YtdijaobhijmknaaW.PrintMore
attribute [local go_sem] max2_int min2_int max_two min_two

theorem Boxed.low {base : Nat} {w w1 : World} {b : Nat} {t : Tri} (h : Boxed w b t) (hb : Below base w w1) (hl : b < base) : Boxed w1 b t := by
  have hk : ∀ o, w1.cell? ⟨b, o, none⟩ = w.cell? ⟨b, o, none⟩ := fun o => World.cell?_of_block (hb.block b hl)
  exact ⟨(hk 0).trans h.1, (hk 1).trans h.2.1, (hk 2).trans h.2.2⟩
theorem R_slot {base n c : Nat} {w : World} {A : Option Addr} {ts : List Tri} (h : Kd.R kT 54 w base (fun _ => True) (.slice A n c) ts) (hn : 0 < n) : ∃ g, A = some ⟨g, 0, none⟩ ∧ base ≤ g ∧ g < w.heap.size ∧ ∀ o, w.frozen? ⟨g, o, none⟩ = false := by
  obtain ⟨h0, inner, hown, hR⟩ := h
  rcases hown.2 with ⟨hv, h1⟩ | ⟨g', cap', cur, hv, hbg, hg, hnc, hcm, hcs, htk⟩
  · injection hv with _ h2 _; omega
  · injection hv with e1 e2 e3
    exact ⟨g', e1, hbg, (by
      rcases Nat.lt_or_ge g' w.heap.size with hl | hl
      · exact hl
      · rw [Array.getElem?_eq_none hl] at hg; cases hg), fun o => blk_frozen hg _⟩
theorem add_flat (g k : Nat) : (⟨g, 0, none⟩ : Addr).add k = ⟨g, k, none⟩ := by
  unfold Addr.add
  by_cases c : k = 0
  · simp [c]
  · simp [c]
/-- Three cells that may be written. -/
def Fz3 (w : World) (q : Addr) : Prop := w.frozen? q = false ∧ w.frozen? ⟨q.block, q.off + 1, none⟩ = false ∧ w.frozen? ⟨q.block, q.off + 2, none⟩ = false
theorem row_at {base g n cap : Nat} {W : World} {xs : List Tri} (h : Kd.R kT 54 W base (fun _ => True) (.slice (some ⟨g, 0, none⟩) n cap) xs) (i : Nat) (hi : i < n) (z : Tri) : At3 W ⟨g, i * 3, none⟩ (xs.getD i z) ∧ Fz3 W ⟨g, i * 3, none⟩ := by
  obtain ⟨ad, e, k⟩ := at3_of (Bs.reads_n h).2.2 i hi z
  injection e with e
  subst e
  obtain ⟨g', e, _, _, hf⟩ := R_slot h (by omega)
  injection e with e
  injection e with e
  subst e
  rw [add_flat] at k
  exact ⟨k, hf _, hf _, hf _⟩
theorem wrap_succ {i : Nat} (h : i ≤ 1000) : wrap64 ((i : Int) + 1) = ((i + 1 : Nat) : Int) := by unfold wrap64; omega
set_option maxRecDepth 100000 in
set_option maxHeartbeats 2000000 in
theorem deleteT_any (A : Option Addr) (c b base : Nat) (p : Tri) (ts : List Tri) (w : World) (hr : Kd.R kT 54 w base (fun _ => True) (.slice A ts.length c) ts) (hp : Boxed w b p) (hl : b < base) (hbw : base ≤ w.heap.size) (hlen : ts.length ≤ 1000) :
    Calls Try.prog 71 #[.slice A ts.length c, .func (.func 72) #[] #[.pointer (some ⟨b, 0, none⟩)]] w fun e w' => ∃ v, e = .returned v ∧ Kd.R kT 54 w' base (fun _ => True) v (allL ts p) ∧ Below base w w' := by
  obtain ⟨z, hz⟩ : ∃ z : Tri, z = ⟨0, 0, 0⟩ := ⟨_, rfl⟩
  have CI := Aside0.mk (indexT_any A c b p z ts w (Bs.reads_n hr).2.2 hp)
  have C := Aside0.mk (fun t w hp => closure_any b p t w hp)
  have HR := Aside0.mk hr
  have HP := Aside0.mk hp
  obtain ⟨n, hn⟩ : ∃ n, n = ts.length := ⟨_, rfl⟩
  have HN := Aside0.mk hn
  rw [← hn] at HR CI hlen ⊢
  clear hr hp hn hz
  go_enter Try.func71, Try.ntmps71
  go_wp2_with (go_at_call 81; (with_reducible refine CI.out.mono ?_); rintro e w1 ⟨x, rfl, hx, hb⟩; have HB := Aside0.mk hb; have HX := Aside0.mk hx; clear hb hx)
  · rename_i hx1
    have hx2 : x = -1 := by simpa using hx1
    rcases HX.out with ⟨_, hall⟩ | ⟨i, e, _⟩
    · go_ret
      refine ⟨_, rfl, ?_, HB.out.mono hbw⟩
      rw [all_kept (z := z) hall]
      exact Kd.R_below HR.out HB.out
    · omega
  · rename_i hx1 K1 hK1
    rcases HX.out with ⟨e, _⟩ | ⟨i0, rfl, hi0, hall, hm⟩
    · rw [e] at hx1; exact absurd hx1 (by decide)
    · have HI := Aside0.mk (DelI.start (z := z) hi0 hall hm)
      rw [← HN.out] at hi0
      have HR1 := Aside0.mk (Kd.R_below HR.out HB.out)
      have HB1 := Aside0.mk (HB.out.mono hbw)
      obtain ⟨g, rfl, hg1, hg2, hg3⟩ := R_slot HR1.out (by omega)
      have hg2 := Aside0.mk hg2
      have hg3 := Aside0.mk hg3
      have hnc := Aside0.mk (Bs.reads_n HR.out).2.1
      clear hall hm HX HR HB hx1 CI
      go_loopw [5, 6, 7] (fun s5 s6 _ wr => ∃ (i j : Nat) (xs : List Tri), j ≤ n ∧ s5 = .int .i64 i ∧ s6 = .int .i64 j ∧ Aside0 (DelI p z ts xs i j) ∧ Aside0 (Kd.R kT 54 wr base (fun _ => True) (.slice (some ⟨g, 0, none⟩) n c) xs) ∧ Aside0 (Below base w wr)) (fun _ x _ _ => n - (intOf x).toNat)
      case atStart => exact ⟨i0, i0 + 1, ts, by omega, rfl, by rw [wrap_succ (by omega)], HI, HR1, HB1⟩
      case round =>
        clear HI HR1 HB1
        obtain ⟨i, j, xs, hj, rfl, rfl, HI, HO, HB⟩ := hrel
        have hij : i ≤ j := HI.out.1
        by_cases hlt : j < n
        · have HA := Aside0.mk (row_at HO.out j hlt z)
          obtain ⟨⟨k0, k1, k2⟩, _⟩ := HA.out
          have he := HI.out.2.2.2 j (Nat.le_refl _)
          obtain ⟨t, ht⟩ : ∃ t, t = ts.getD j z := ⟨_, rfl⟩
          rw [he, ← ht] at k0 k1 k2
          have HT := Aside0.mk ht
          have hi2 : (0 : Int) ≤ (j : Int) := by omega
          have hi3 : (j : Int) < (n : Int) := by omega
          clear ht he
          obtain ⟨wb, hwb, HX0, HW, HWS⟩ := boxed_world wr t 54
          have HBB := Aside0.mk (HB.out.trans (HW.out.mono (Nat.le_trans hbw HB.out.size)))
          have HBP := Aside0.mk (HP.out.low HBB.out hl)
          have HOB := Aside0.mk (Kd.R_below HO.out HW.out)
          have CT := Aside0.mk (C.out t wb HBP.out)
          unfold Tri.val at CT
          cases hm : matchB p t with
          | true =>
            have HM := Aside0.mk hm
            rw [hm] at CT
            clear hm
            rw [hwb] at CT HX0 HBB HOB
            clear hwb
            go_wp2_with (go_at_call 72; (with_reducible refine CT.out.mono ?_); rintro e w3 ⟨rfl, hb⟩; have HB3 := Aside0.mk (HBB.out.trans (hb.mono (Nat.le_trans hbw HBB.out.size))); have HO3 := Aside0.mk (Kd.R_below HOB.out hb); obtain ⟨b0, b1, b2⟩ := HX0.out.below hb; obtain ⟨⟨m0, m1, m2⟩, f0, f1, f2⟩ := row_at HO3.out i (by omega) z; clear hb)
            go_roundw
            case rel => exact ⟨i + 1, j + 1, xs.set i t, by omega, rfl, rfl, ⟨by rw [HT.out]; exact HI.out.keep (by rw [← HN.out]; exact hlt) (by rw [← HT.out]; exact HM.out)⟩, ⟨put3 HO3.out i (by omega) t⟩, ⟨((HB3.out.setCell hg1 _).setCell hg1 _).setCell hg1 _⟩⟩
            case measure => simp [intOf]; omega
          | false =>
            have HM := Aside0.mk hm
            rw [hm] at CT
            clear hm
            rw [hwb] at CT HX0 HBB HOB
            clear hwb
            go_wp2_with (go_at_call 72; (with_reducible refine CT.out.mono ?_); rintro e w3 ⟨rfl, hb⟩; have HB3 := Aside0.mk (HBB.out.trans (hb.mono (Nat.le_trans hbw HBB.out.size))); have HO3 := Aside0.mk (Kd.R_below HOB.out hb); clear hb)
            go_roundw
            case rel => exact ⟨i, j + 1, xs, by omega, rfl, rfl, ⟨HI.out.skip (by rw [← HN.out]; exact hlt) (by rw [← HT.out]; exact HM.out)⟩, HO3, HB3⟩
            case measure => simp [intOf]; omega
        · have hjn : j = n := by omega
          subst hjn
          obtain ⟨W1, c1, c2, c3⟩ := clear3 HO.out i hij 0
          obtain ⟨it, q1, q2, q3, q4⟩ := info_tri_at
          obtain ⟨sv, hsv⟩ : ∃ sv : Option Addr, sv = (if c = i then some ⟨g, 0, none⟩ else (some (⟨g, 0, none⟩ : Addr)).map (·.add (i * 3))) := ⟨_, rfl⟩
          have hs1 := cut_from (P := Try.prog) 52 54 .i64 Try.underlying52 q1 3 q3 (some ⟨g, 0, none⟩) j c (i : Int) (by omega) (by omega)
          have hs2 := cut_to (P := Try.prog) 52 54 .i64 Try.underlying52 q1 (some ⟨g, 0, none⟩) j c (i : Int) (by omega) (by omega) hnc.out
          simp only [Int.toNat_natCast] at hs1 hs2
          rw [← hsv] at hs1 c1
          have HX := HI.out.2.2.1
          rw [HN.out, List.take_length] at HX
          have HO1 : Aside0 (Kd.R kT 54 W1 base (fun _ => True) (.slice (some ⟨g, 0, none⟩) i c) (allL ts p)) := ⟨by rw [← HX]; exact c2⟩
          have HB1 := Aside0.mk (c3 _ HB.out)
          clear HX c2 c3 hsv q1 q2 q3 q4
          go_wp2_with fail
          go_ret
          exact ⟨_, rfl, HO1.out, HB1.out⟩
/-- r is a Ring of the triples ts. -/
def IsRing (w : World) (r : Value) (ts : List Tri) : Prop :=
  ∃ b A c v0 v1 v2, r = .pointer (some ⟨b, 0, none⟩) ∧ w.cell? ⟨b, 0, none⟩ = some v0 ∧ w.cell? ⟨b, 1, none⟩ = some v1 ∧ w.cell? ⟨b, 2, none⟩ = some v2 ∧ w.cell? ⟨b, 3, none⟩ = some (.slice A ts.length c) ∧ Kd.C kT w A ts.length ts ∧
    Wv.IsWave w v0 (ts.map Tri.s) ∧ Wv.IsWave w v1 (ts.map Tri.p) ∧ Wv.IsWave w v2 (ts.map Tri.o)
theorem IsRing.below {w w1 : World} {r : Value} {ts : List Tri} (h : IsRing w r ts) (hb : Below w.heap.size w w1) : IsRing w1 r ts := by
  obtain ⟨b, A, c, v0, v1, v2, rfl, c0, c1, c2, c3, hr, w0, x1, x2⟩ := h
  have hl := World.block_lt_of_cell? w _ c0
  have hk : ∀ o, w1.cell? ⟨b, o, none⟩ = w.cell? ⟨b, o, none⟩ := fun o => hb.cell (p := ⟨b, o, none⟩) hl
  exact ⟨b, A, c, v0, v1, v2, rfl, (hk 0).trans c0, (hk 1).trans c1, (hk 2).trans c2, (hk 3).trans c3, Kd.C_below hr hb, w0.below hb, x1.below hb, x2.below hb⟩
/-- A Ring's triples, as All needs them. -/
def IsL (w : World) (r : Value) (ts : List Tri) : Prop := ∃ b A c, r = .pointer (some ⟨b, 0, none⟩) ∧ w.cell? ⟨b, 3, none⟩ = some (.slice A ts.length c) ∧ Kd.C kT w A ts.length ts
theorem IsRing.l {w : World} {r : Value} {ts : List Tri} (h : IsRing w r ts) : IsL w r ts := by
  obtain ⟨b, A, c, v0, v1, v2, rfl, c0, c1, c2, c3, hr, w0, x1, x2⟩ := h
  exact ⟨b, A, c, rfl, c3, hr⟩
theorem IsL.below {w w1 : World} {r : Value} {ts : List Tri} (h : IsL w r ts) (hb : Below w.heap.size w w1) : IsL w1 r ts := by
  obtain ⟨b, A, c, rfl, c3, hr⟩ := h
  exact ⟨b, A, c, rfl, (hb.cell (p := ⟨b, 3, none⟩) (World.block_lt_of_cell? w _ c3)).trans c3, Kd.C_below hr hb⟩
/-- .. that lie from a block on. -/
def OwnL (base : Nat) (w : World) (r : Value) (ts : List Tri) : Prop := ∃ b A c, r = .pointer (some ⟨b, 0, none⟩) ∧ base ≤ b ∧ w.cell? ⟨b, 3, none⟩ = some (.slice A ts.length c) ∧ Kd.C kT w A ts.length ts ∧ ∀ ad, A = some ad → base ≤ ad.block
theorem OwnL.l {base : Nat} {w : World} {r : Value} {ts : List Tri} (h : OwnL base w r ts) : IsL w r ts := by
  obtain ⟨b, A, c, e, _, c3, hr, _⟩ := h
  exact ⟨b, A, c, e, c3, hr⟩
theorem OwnL.below {base : Nat} {w w1 : World} {r : Value} {ts : List Tri} (h : OwnL base w r ts) (hb : Below w.heap.size w w1) : OwnL base w1 r ts := by
  obtain ⟨b, A, c, e, hl, c3, hr, ha⟩ := h
  exact ⟨b, A, c, e, hl, (hb.cell (p := ⟨b, 3, none⟩) (World.block_lt_of_cell? w _ c3)).trans c3, Kd.C_below hr hb, ha⟩
/-- A store ahead of the base leaves them as they are. -/
theorem OwnL.set {base : Nat} {w : World} {r : Value} {ts : List Tri} (h : OwnL base w r ts) {g k : Nat} (hg : g < base) (u : Value) : OwnL base (w.setCell ⟨g, k, none⟩ u) r ts := by
  obtain ⟨b, A, c, e, hl, c3, hr, ha⟩ := h
  exact ⟨b, A, c, e, hl, (World.cell?_of_block (Below.heap_setCell w ⟨g, k, none⟩ u b (by simp; omega))).trans c3, Kd.C_foot_ne (fun h => h) hr (fun ad ea _ => by have := ha ad ea; omega) _ ((KeepBut.refl w g none).set_ k u), ha⟩
/-- A store into a block that came later leaves them, too. -/
theorem IsL.set {w : World} {r : Value} {ts : List Tri} {w0 : World} (h : IsL w0 r ts) (hb : Below w0.heap.size w0 w) {g k : Nat} (hg : w0.heap.size ≤ g) (u : Value) : IsL (w.setCell ⟨g, k, none⟩ u) r ts := h.below (hb.setCell hg u)
theorem all_nil (p : Tri) (w : World) : Calls Try.prog 52 #[.pointer none, p.val] w (RowP w []) := by
  unfold Tri.val
  go_enter Try.func52, Try.ntmps52
  go_wp2_with fail
  go_ret
  exact ⟨_, rfl, Kd.R_nil _ _ _ _ _, (Below.refl _ _).alloc (Nat.le_refl _) _⟩
set_option maxRecDepth 100000 in
theorem all_any {r : Value} (p : Tri) (ts : List Tri) (w : World) (h : IsL w r ts) (hl : ts.length ≤ 1000) : Calls Try.prog 52 #[r, p.val] w (RowP w (allL ts p)) := by
  obtain ⟨b, A, c, rfl, c3, hr⟩ := h
  obtain ⟨wb, hwb, HX0, HW, HWS⟩ := boxed_world w p 54
  have hlt := World.block_lt_of_cell? w _ c3
  have hd : wb.cell? ⟨b, 3, none⟩ = some (.slice A ts.length c) := (HW.out.cell (p := ⟨b, 3, none⟩) hlt).trans c3
  have CC := Aside0.mk (cloneT_any A c ts wb (Kd.C_below hr HW.out) hl)
  have hsz := HWS.out
  have CD := Aside0.mk (fun A c W hr hp hbw => deleteT_any A c w.heap.size wb.heap.size p ts W hr hp (by omega) hbw hl)
  obtain ⟨n, hn⟩ : ∃ n, n = ts.length := ⟨_, rfl⟩
  have HN := Aside0.mk hn
  rw [← hn] at CC hd
  have HWS2 := Aside0.mk hsz
  rw [hwb] at hd
  clear hr c3 hn hsz
  unfold Tri.val
  go_enter Try.func52, Try.ntmps52
  rw [hwb] at CC
  have HWB := Aside0.mk hwb
  clear hwb
  go_wp2_with (first
    | (go_at_call 69; (with_reducible refine CC.out.mono ?_); rintro e w1 ⟨v, rfl, hv, hb⟩; obtain ⟨A2, d2, e2⟩ := Kd.R_slice hv; subst e2; have HV := Aside0.mk hv; have HB := Aside0.mk hb; clear hv hb)
    | (go_at_call 71; have HB1 : Aside0 (Below wb.heap.size wb w1) := ⟨by rw [HWB.out]; exact HB.out⟩; have HV1 : Aside0 (Kd.R kT 54 w1 wb.heap.size (fun _ => True) (.slice A2 ts.length d2) ts) := ⟨by rw [HWB.out]; exact HV.out⟩; (with_reducible refine (CD.out A2 d2 w1 HV1.out (HX0.out.below HB1.out) HB1.out.size).mono ?_); rintro e w3 ⟨v, rfl, hv, hb⟩; have HV3 := Aside0.mk hv; have HB3 := Aside0.mk (HB1.out.trans hb); clear hv hb))
  go_ret
  exact ⟨_, rfl, Kd.R_lower HV3.out (by have := HWS2.out; omega), below_two' HW.out HB3.out⟩
theorem row_len {w w' : World} {l : List Tri} {e : Ending} (h : RowP w l e w') : ∃ A c, e = .returned (.slice A l.length c) ∧ Kd.R kT 54 w' w.heap.size (fun _ => True) (.slice A l.length c) l ∧ Below w.heap.size w w' := by
  obtain ⟨v, rfl, hv, hb⟩ := h
  obtain ⟨A, c, rfl⟩ := Kd.R_slice hv
  exact ⟨A, c, rfl, hv, hb⟩
theorem count_of {r : Value} (p : Tri) (l : List Tri) (w : World) (h : ∀ w1, Below w.heap.size w w1 → Calls Try.prog 52 #[r, p.val] w1 (RowP w1 l)) :
    Calls Try.prog 50 #[r, p.val] w fun e w' => e = .returned (.int .i64 (l.length : Int)) ∧ Below w.heap.size w w' := by
  obtain ⟨wb, hwb, HX0, HW, HWS⟩ := boxed_world w p 54
  have C := Aside0.mk (h wb HW.out)
  unfold Tri.val at *
  clear h
  rw [hwb] at C HW
  clear hwb
  go_enter Try.func50, Try.ntmps50
  go_wp2_with (go_at_call 52; (with_reducible refine C.out.mono ?_); rintro e w1 hw; obtain ⟨A, c, rfl, hv, hb⟩ := row_len hw; have HB := Aside0.mk (below_two' HW.out hb); clear hv hb hw)
  go_ret
  exact ⟨rfl, HB.out⟩
theorem len_of {r : Value} (l : List Tri) (w : World) (h : Calls Try.prog 52 #[r, (⟨0, 0, 0⟩ : Tri).val] w (RowP w l)) :
    Calls Try.prog 49 #[r] w fun e w' => e = .returned (.int .i64 (l.length : Int)) ∧ Below w.heap.size w w' := by
  have C := Aside0.mk h
  unfold Tri.val at *
  clear h
  go_enter Try.func49, Try.ntmps49
  go_wp2_with (go_at_call 52; (with_reducible refine C.out.mono ?_); rintro e w1 hw; obtain ⟨A, c, rfl, hv, hb⟩ := row_len hw; have HB := Aside0.mk hb; clear hv hb hw)
  go_ret
  exact ⟨rfl, HB.out⟩
end Go.Proofs.Ytdijaobhijmknaa.Rg
