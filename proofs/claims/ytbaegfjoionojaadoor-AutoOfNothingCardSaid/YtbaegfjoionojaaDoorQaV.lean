/- Places, Last, Steps of an automaton; of none. -/
import Derived.Test.YtbaegfjoionojaaDoorQaU
set_option linter.unusedSimpArgs false
set_option linter.unusedVariables false
namespace Go.Proofs.YtbaegfjoionojaaDoor.Qa
open Go Go.RowKit Go.Proofs.YtbaegfjoionojaaDoor.Qy Go.Proofs.YtbaegfjoionojaaDoor.Tm Go.Proofs.YtbaegfjoionojaaDoorW.PrintWords

set_option maxRecDepth 100000 in
set_option maxHeartbeats 16000000 in
theorem places_nil (w : World) : Calls Tryd.prog 37 #[.pointer none] w fun e w' => e = .returned (.int .i64 0) ∧ w' = w := by
  go_enter Tryd.func37, Tryd.ntmps37
  go_wp2_with fail
  go_ret
  exact ⟨rfl, rfl⟩
set_option maxRecDepth 100000 in
set_option maxHeartbeats 16000000 in
theorem last_nil (w : World) (x : Int) : Calls Tryd.prog 41 #[.pointer none, .int .i64 x] w fun e w' => e = .returned (.bool false) ∧ w' = w := by
  go_enter Tryd.func41, Tryd.ntmps41
  go_wp2_with fail
  go_ret
  exact ⟨rfl, rfl⟩
set_option maxRecDepth 100000 in
set_option maxHeartbeats 16000000 in
theorem steps_nil (w : World) : Calls Tryd.prog 39 #[.pointer none] w fun e w' => e = .returned (.slice none 0 0) ∧ w' = w := by
  go_enter Tryd.func39, Tryd.ntmps39
  go_wp2_with fail
  go_ret
  exact ⟨rfl, rfl⟩
set_option maxRecDepth 100000 in
set_option maxHeartbeats 16000000 in
theorem takes_nil (w : World) (A : Option Addr) (n c : Nat) : Calls Tryd.prog 43 #[.pointer none, .slice A n c] w fun e w' => e = .returned (.bool false) ∧ w' = w := by
  go_enter Tryd.func43, Tryd.ntmps43
  go_wp2_with fail
  go_ret
  exact ⟨rfl, rfl⟩
set_option maxRecDepth 100000 in
set_option maxHeartbeats 16000000 in
theorem places_any (w : World) (b : Nat) (e : Lx) (h : AutF w b e) : Calls Tryd.prog 37 #[.pointer (some ⟨b, 0, none⟩)] w fun x w' => x = .returned (.int .i64 ((e.n + 1 : Nat) : Int)) ∧ w' = w := by
  obtain ⟨A, cA, bB, cB, F, cF, L, cL, h1, -⟩ := h
  have q1 : w.cell? ⟨b, 1, none⟩ = some (.slice (some ⟨bB, 0, none⟩) (e.n + 1) cB) := (blk_cell h1 1).trans rfl
  obtain ⟨m, hm⟩ : ∃ m, e.n + 1 = m := ⟨_, rfl⟩
  rw [hm] at q1 ⊢
  clear h1 hm
  go_enter Tryd.func37, Tryd.ntmps37
  go_wp2_with fail
  go_ret
  exact ⟨rfl, rfl⟩
theorem contains_ints {w : World} {ok : Nat → Prop} {A : Option Addr} {r : List Nat} (h : IntsAt w ok A r) (c : Nat) (x : Int) : Calls Tryd.prog 73 #[.slice A r.length c, .int .i64 x] w fun e w' => e = .returned (.bool (decide (∃ n, n ∈ r ∧ (n : Int) = x))) ∧ w' = w := by
  by_cases h0 : 0 < r.length
  · obtain ⟨b, o, rfl, -, hc⟩ := h.2 h0
    have := Tryd.slices_Contains_int b o r.length c (zs r) x w (by rw [zs_length]; exact Nat.le_refl _) h.1 (fun j hj => by
      rw [zs_length] at hj
      rw [hc j _ (List.getElem?_eq_getElem hj)]
      simp [zs, hj])
    refine this.mono ?_
    rintro e w' ⟨rfl, rfl⟩
    refine ⟨?_, rfl⟩
    rw [show (zs r).take r.length = zs r from List.take_of_length_le (by rw [zs_length]; exact Nat.le_refl _)]
    congr 2
    have : (zs r).contains x = true ↔ ∃ n, n ∈ r ∧ (n : Int) = x := by
      simp [zs]
    rw [Bool.eq_iff_iff, this, decide_eq_true_iff]
  · obtain rfl := List.eq_nil_of_length_eq_zero (show r.length = 0 by omega)
    refine (Tryd.slices_Contains_int_empty A c x w).mono ?_
    rintro e w' ⟨rfl, rfl⟩
    exact ⟨by simp, rfl⟩
set_option maxRecDepth 100000 in
set_option maxHeartbeats 16000000 in
theorem last_any (w : World) (b : Nat) (e : Lx) (h : AutF w b e) (x : Int) : Calls Tryd.prog 41 #[.pointer (some ⟨b, 0, none⟩), .int .i64 x] w fun y w' => y = .returned (.bool ((decide (x = 0) && e.nl) || decide (∃ n, n ∈ e.la 0 ∧ (n : Int) = x))) ∧ w' = w := by
  obtain ⟨A, cA, bB, cB, F, cF, L, cL, h1, -, -, hl⟩ := h
  have q2 : w.cell? ⟨b, 4, none⟩ = some (.bool e.nl) := (blk_cell h1 4).trans rfl
  have q3 : w.cell? ⟨b, 3, none⟩ = some (.slice L (e.la 0).length cL) := (blk_cell h1 3).trans rfl
  have CC := Aside0.mk (contains_ints hl cL x)
  obtain ⟨z, hz⟩ : ∃ z, e.nl = z := ⟨_, rfl⟩
  obtain ⟨m, hm⟩ : ∃ m, (e.la 0).length = m := ⟨_, rfl⟩
  obtain ⟨d, hd⟩ : ∃ d, decide (∃ n, n ∈ e.la 0 ∧ (n : Int) = x) = d := ⟨_, rfl⟩
  rw [hz] at q2 ⊢
  rw [hm, hd] at CC
  rw [hm] at q3
  rw [hd]
  clear h1 hl hz hm hd
  by_cases h0 : x = 0
  · subst h0
    cases z with
    | true =>
      go_enter Tryd.func41, Tryd.ntmps41
      go_wp2_with fail
      go_ret
      exact ⟨by simp, rfl⟩
    | false =>
      go_enter Tryd.func41, Tryd.ntmps41
      go_wp2_with (go_at_call 73; (with_reducible refine CC.out.mono ?_); rintro y w' ⟨rfl, rfl⟩)
      go_ret
      exact ⟨by simp, rfl⟩
  · have n0 : (x == 0) = false := by rw [beq_eq_false_iff_ne]; exact h0
    have HN := Aside0.mk (show decide (x = 0) = false from decide_eq_false h0)
    clear h0
    go_enter Tryd.func41, Tryd.ntmps41
    go_wp2_with (go_at_call 73; (with_reducible refine CC.out.mono ?_); rintro y w' ⟨rfl, rfl⟩)
    go_ret
    exact ⟨by rw [HN.out]; simp, rfl⟩
/-! ### Steps -/
theorem info_step : (Tryd.prog.info? 56).map (fun i => (i.zero, i.size, i.bytes)) = some (some (.agg #[.int .i64 0, .int .i64 0, .bool false, .bool false, .slice none 0 0]), 5, 48) := by kernel_rfl
def StpR (w : World) (ok : Nat → Prop) (a : Stp) (cs : List Value) : Prop := ∃ (A : Option Addr) (c : Nat), cs = [.int .i64 a.f, .int .i64 a.t, .bool a.back, .bool a.neg, .slice A a.ts.length c] ∧ a.ts.length ≤ c ∧ TsAt w ok A a.ts
theorem StpR.move {w w1 : World} {ok ok' : Nat → Prop} (hm : ∀ k, ok k → k < w.heap.size → w1.heap[k]? = w.heap[k]? ∧ ok' k) {x : Stp} {cs : List Value} (h : StpR w ok x cs) : StpR w1 ok' x cs := by
  obtain ⟨A, c, e, h1, h2⟩ := h
  exact ⟨A, c, e, h1, (h2.mono (ok' := fun k => ok k ∧ ok' k) (fun k hk hl => ⟨hk, (hm k hk hl).2⟩)).move (fun k hk hl => (hm k hk.1 hl).1) |>.mono (fun k hk _ => hk.2)⟩
/-- A row of steps of the call's own. -/
def StpsR (w : World) (N : Nat) (v : Value) (l : List Stp) : Prop := ∃ xs, w.ownsRow N 56 5 v l.length xs ∧ Reps (StpR w (fun g => v.ownBlock ≠ some g)) 5 l xs
theorem StpsR.below {w w1 : World} {N : Nat} {v : Value} {l : List Stp} (h : StpsR w N v l) (hb : Below w.heap.size w w1) : StpsR w1 N v l := by
  obtain ⟨xs, h1, h2⟩ := h
  exact ⟨xs, pw_own_below h1 hb, h2.imp_ (fun x cs hx => hx.move (fun k hk hl => ⟨hb.block k hl, hk⟩))⟩
theorem steps_add {W w1 : World} {v v1 : Value} {l : List Stp} {xs cs : List Value} {a : Stp} (hr : Reps (StpR W (fun g => v.ownBlock ≠ some g)) 5 l xs) (ha : StpR W (fun g => v.ownBlock ≠ some g) a cs) (hg : W.grownBy w1 v.ownBlock) (hat : v1.ownBlock = v.ownBlock ∨ ∃ b, v1.ownBlock = some b ∧ W.heap.size ≤ b) :
    Reps (StpR w1 (fun g => v1.ownBlock ≠ some g)) 5 (l ++ [a]) (xs ++ cs) := by
  have mv : ∀ {x : Stp} {c : List Value}, StpR W (fun g => v.ownBlock ≠ some g) x c → StpR w1 (fun g => v1.ownBlock ≠ some g) x c := fun hx => hx.move (fun k hk hl => ⟨hg.block k hl (fun e => hk e.symm), fun e => by
    rcases hat with h | ⟨b, h, hle⟩
    · exact hk (h ▸ e)
    · rw [h] at e; injection e with e; omega⟩)
  refine (hr.imp_ (fun x c hx => mv hx)).snoc (mv ha) ?_
  obtain ⟨A, c, e, -⟩ := ha
  rw [e]; rfl
theorem StpsR.reads {w : World} {N : Nat} {v : Value} {l : List Stp} (h : StpsR w N v l) : ∃ A c, v = .slice A l.length c ∧ RowAt w A 5 l (StpAt w) := by
  obtain ⟨xs, h1, h2⟩ := h
  rcases h1.2 with ⟨rfl, h0⟩ | ⟨g, cap, cur, rfl, hg, hh, k1, k2, k3, k4⟩
  · exact ⟨none, 0, by rw [h0], fun i a ha => by have := (List.getElem?_eq_some_iff.1 ha).1; omega⟩
  · refine ⟨some ⟨g, 0, none⟩, cap, rfl, fun i a ha => ?_⟩
    obtain ⟨A, c, e, hc, ht⟩ := h2.2 i a ha
    refine ⟨g, 0, (xs.drop (i * 5)).take 5, rfl, fun j u hu => ?_, A, c, e, hc, ht.mono (fun _ _ _ => trivial)⟩
    have h3 : xs[i * 5 + j]? = some u := by
      rw [List.getElem?_take] at hu
      split at hu
      · rwa [List.getElem?_drop] at hu
      · cases hu
    have h4 := h1.cells (g := g) rfl _ u h3
    rw [add_plain] at h4
    rwa [Nat.zero_add]
theorem lay_ts : ∀ (r : Rx) (b : Bool), r.fine → ∀ x ∈ (r.lay b).lv, 0 < x.ts.length ∧ x.ts.length ≤ 1000
  | .iri t, b, _, x, hx => by simp [Rx.lay, Lx.lv] at hx; subst hx; exact ⟨by simp, by simp⟩
  | .neg ts, b, h, x, hx => by
    simp [Rx.lay, Lx.lv] at hx; subst hx
    have h1 := h.1
    have h2 := h.2.1
    exact ⟨by show 0 < ts.length; omega, by show ts.length ≤ 1000; omega⟩
  | .back r, b, h, x, hx => lay_ts r (!b) h x hx
  | .seq r s, false, h, x, hx => (List.mem_append.1 hx).elim (lay_ts r false h.1 x) (lay_ts s false h.2 x)
  | .seq r s, true, h, x, hx => (List.mem_append.1 hx).elim (lay_ts s true h.2 x) (lay_ts r true h.1 x)
  | .alt r s, b, h, x, hx => (List.mem_append.1 hx).elim (lay_ts r b h.1 x) (lay_ts s b h.2 x)
  | .star r, b, h, x, hx => lay_ts r b h x hx
  | .plus r, b, h, x, hx => lay_ts r b h x hx
  | .maybe r, b, h, x, hx => lay_ts r b h x hx
def StepsP (w : World) (l : List Stp) (e : Ending) (w' : World) : Prop := ∃ A c, e = .returned (.slice A l.length c) ∧ RowAt w' A 5 l (StpAt w') ∧ Below w.heap.size w w'
set_option maxRecDepth 100000 in
set_option maxHeartbeats 16000000 in
theorem steps_any (w : World) (b : Nat) (e : Lx) (h : AutF w b e) (hts : ∀ x ∈ e.lv, 0 < x.ts.length ∧ x.ts.length ≤ 1000) (hn : e.n ≤ 30) : Calls Tryd.prog 39 #[.pointer (some ⟨b, 0, none⟩)] w (StepsP w e.steps) := by
  obtain ⟨A, cA, bB, cB, F, cF, L, cL, h1, h2, h3, -⟩ := h
  have HK := Aside0.mk h1
  have HAL := Aside0.mk h2
  have HRW := Aside0.mk h3
  have HTS := Aside0.mk hts
  have HSL : Aside0 (∀ i, i ≤ e.n + 1 → (e.stepsTo i).length ≤ 961) := ⟨fun i hi => by
    have h1 := e.steps_len i
    have h2 : i * (e.n + 1) ≤ 31 * 31 := Nat.mul_le_mul (by omega) (by omega)
    omega⟩
  have HSE : Aside0 (e.steps = e.stepsTo (e.n + 1)) := ⟨rfl⟩
  obtain ⟨M, hM⟩ : ∃ M, e.n + 1 = M := ⟨_, rfl⟩
  have HM := Aside0.mk hM
  obtain ⟨en, hen⟩ : ∃ n, e.n = n := ⟨_, rfl⟩
  have HEN := Aside0.mk hen
  rw [hen] at HK hM hn
  rw [hM] at HK
  clear h1 h2 h3 hts hen
  go_enter Tryd.func39, Tryd.ntmps39
  have q1 := (blk_cell HK.out 1).trans rfl
  go_wp2_with fail
  clear q1
  go_loopw [3, 16] (fun x y wr => ∃ i : Nat, i ≤ M ∧ y = .int .i64 i ∧ Aside0 (StpsR wr w.heap.size x (e.stepsTo i)) ∧ Aside0 (Below w.heap.size w wr)) (fun _ y _ => M - (intOf y).toNat)
  case atStart => exact ⟨0, by omega, rfl, ⟨⟨[], own_nil _ _ _ _, Reps.none _ _⟩⟩, ⟨Below.refl _ _⟩⟩
  case round =>
    obtain ⟨wa, rfl⟩ : ∃ x, x = wr := ⟨wr, rfl⟩
    obtain ⟨i, hi, rfl, HR, HB⟩ := hrel
    by_cases hin : i < M
    · obtain ⟨R, cR, hcell, hri⟩ := HRW.out i (by have := HEN.out; omega)
      have hcell2 := pw_cell_below HB.out hcell
      have HRI := Aside0.mk hri
      have HRL : Aside0 ((e.stepsTo i).length ≤ 961) := ⟨HSL.out i (by have := HM.out; omega)⟩
      have HR0 : Aside0 (∃ v, StpsR wa w.heap.size v (e.stepsTo i ++ ((e.row i).take 0).map (e.stp i))) := ⟨⟨_, by simpa using HR.out⟩⟩
      have HIN : Aside0 (∀ j, j ∈ e.row i → 0 < j ∧ j ≤ en) := ⟨fun j hj => by have := e.go_in ((e.mem_row i j).1 hj); have := HEN.out; omega⟩
      have hrn := e.row_len i
      have HNX : Aside0 (e.stepsTo (i + 1) = e.stepsTo i ++ (e.row i).map (e.stp i)) := ⟨e.stepsTo_succ i⟩
      obtain ⟨rw_, hrw⟩ : ∃ l, e.row i = l := ⟨_, rfl⟩
      rw [hrw] at HRI hcell2 HR0 HIN hrn HNX
      rw [HEN.out] at hrn
      have g0 : (0 : Int) ≤ (i : Int) := by omega
      have g1 : (i : Int) < (M : Int) := by omega
      obtain ⟨rl, hrl⟩ : ∃ n, rw_.length = n := ⟨_, rfl⟩
      rw [hrl] at hcell2 hrn
      clear hcell hri hrw HR0
      go_wp2_with fail
      clear hcell2
      go_loopw [3, 23] (fun x y wr => ∃ k : Nat, k ≤ rl ∧ y = .int .i64 k ∧ Aside0 (StpsR wr w.heap.size x (e.stepsTo i ++ (rw_.take k).map (e.stp i))) ∧ Aside0 (Below w.heap.size w wr)) (fun _ y _ => rl - (intOf y).toNat)
      case atStart => exact ⟨0, by omega, rfl, ⟨by simpa using HR.out⟩, HB⟩
      case round =>
        clear HR HB
        obtain ⟨wk, rfl⟩ : ∃ x, x = wr := ⟨wr, rfl⟩
        obtain ⟨k, hk, rfl, HR, HB⟩ := hrel
        obtain ⟨xs, ho, hrep⟩ := HR.out
        by_cases hkn : k < rl
        · obtain ⟨n, hnk⟩ : ∃ n, rw_[k]? = some n := ⟨rw_[k]'(by omega), List.getElem?_eq_getElem _⟩
          obtain ⟨hn0, hn1⟩ := HIN.out n (List.mem_of_getElem? hnk)
          obtain ⟨q, rfl⟩ : ∃ q, n = q + 1 := ⟨n - 1, by omega⟩
          obtain ⟨rb, ro, rfl, -, hrc⟩ := HRI.out.2 (by omega)
          have a0 := pw_cell_below HB.out (hrc k _ hnk)
          obtain ⟨x, hx⟩ : ∃ x, e.lv[q]? = some x := ⟨e.lv[q]'(by have := HEN.out; unfold Lx.n at this; omega), List.getElem?_eq_getElem _⟩
          obtain ⟨ab, ao, cs, rfl, hcs, hxr⟩ := HAL.out q x hx
          obtain ⟨At, ct, rfl, htc, htt⟩ := hxr
          have htl := HTS.out x (List.mem_of_getElem? hx)
          have b0 := pw_cell_below HB.out (hcs 0 _ rfl)
          rw [Nat.add_zero] at b0
          have b1 := pw_cell_below HB.out (hcs 1 _ rfl)
          have b2 := pw_cell_below HB.out (hcs 2 _ rfl)
          have b3 : wk.cell? ⟨b, 0, none⟩ = some (.slice (some ⟨ab, ao, none⟩) en cA) := pw_cell_below HB.out ((blk_cell HK.out 0).trans rfl)
          have htt2 : TsAt wk anyB At x.ts := htt.move (fun g _ hg => HB.out.block g hg)
          have HSTP : Aside0 (e.stp i (q + 1) = ⟨(i : Int), ((q + 1 : Nat) : Int), x.back, x.neg, x.ts⟩) := ⟨by
            unfold Lx.stp Lx.x
            rw [show q + 1 - 1 = q by omega, List.getD_eq_getElem?_getD, hx]; rfl⟩
          have HTK : Aside0 ((rw_.take (k + 1)).map (e.stp i) = (rw_.take k).map (e.stp i) ++ [e.stp i (q + 1)]) := ⟨by
            obtain ⟨h5, h6⟩ := List.getElem?_eq_some_iff.1 hnk
            rw [List.take_succ_eq_append_getElem h5, h6, List.map_append]; rfl⟩
          obtain ⟨tl, htl2⟩ : ∃ n, x.ts.length = n := ⟨_, rfl⟩
          obtain ⟨xn, hxn⟩ : ∃ n, x.neg = n := ⟨_, rfl⟩
          obtain ⟨xb, hxb⟩ : ∃ n, x.back = n := ⟨_, rfl⟩
          rw [htl2] at b0
          rw [hxn] at b1
          rw [hxb] at b2
          have HTL := Aside0.mk htl2
          rw [hxn, hxb] at HSTP
          have hlen : (e.stepsTo i ++ (rw_.take k).map (e.stp i)).length ≤ 1000 := by
            rw [List.length_append, List.length_map, List.length_take]
            have := HRL.out
            omega
          have HO := Aside0.mk ho
          have HREP := Aside0.mk hrep
          have HTT := Aside0.mk htt2
          have HTL2 := Aside0.mk htl
          obtain ⟨l0, hl0⟩ : ∃ l, e.stepsTo i ++ (rw_.take k).map (e.stp i) = l := ⟨_, rfl⟩
          have HL0 := Aside0.mk hl0
          rw [hl0] at HO HREP hlen
          have g2 : (0 : Int) ≤ (k : Int) := by omega
          have g3 : (k : Int) < (rl : Int) := by omega
          have g4 : (((q + 1 : Nat) : Int)) = (q : Int) + 1 := by omega
          rw [g4] at a0
          have g5 : IntKind.i64.wrap ((q : Int) + 1 - 1) = (q : Int) := by rw [show (q : Int) + 1 - 1 = (q : Int) by omega]; exact IntWalk.i64_in _ (by omega)
          have g6 : (0 : Int) ≤ (q : Int) := by omega
          have g7 : (q : Int) < (en : Int) := by omega
          obtain ⟨Av, cv, hv⟩ := own_slice ho
          subst hv
          have HGX : Aside0 (∀ g, (Value.slice Av (e.stepsTo i ++ (rw_.take k).map (e.stp i)).length cv).ownBlock = some g → g < wk.heap.size) := ⟨fun g hg => own_lt ho g hg⟩
          rw [show (e.stepsTo i ++ (rw_.take k).map (e.stp i)).length = l0.length by rw [hl0]] at HO HREP HGX ⊢
          obtain ⟨wx, hwx, HX, HXN, hxs⟩ := boxA wk #[.slice At tl ct, .bool xn, .bool xb] 113
          have HWX := Aside0.mk hwx.symm
          clear hnk hx hcs htc htt htt2 htl hxn hxb htl2 ho hrep hl0 hrc HR g4 hwx
          go_upto_region 11 with (fail)
          rw [HWX.out]
          obtain ⟨gx, hgx⟩ : ∃ g, wk.heap.size = g := ⟨_, rfl⟩
          rw [hgx] at HXN HGX ⊢
          have HBx : Aside0 (Below w.heap.size w wx) := ⟨w_then' HB.out HX.out⟩
          have HSX : Aside0 (∀ W, Below wx.heap.size wx W → (fun W : World => W.cell? ⟨gx, 0, none⟩ = some (.slice At tl ct) ∧ W.cell? ⟨gx, 1, none⟩ = some (.bool xn) ∧ W.cell? ⟨gx, 2, none⟩ = some (.bool xb)) W) := ⟨fun W hW => ⟨(blk_cell (blk_below HXN.out hW) 0).trans rfl, (blk_cell (blk_below HXN.out hW) 1).trans rfl, (blk_cell (blk_below HXN.out hW) 2).trans rfl⟩⟩
          have HOx := Aside0.mk (pw_own_below HO.out HX.out)
          have HREPx : Aside0 (Reps (StpR wx (fun g => (Value.slice Av l0.length cv).ownBlock ≠ some g)) 5 l0 xs) := ⟨HREP.out.imp_ (fun y c hy => hy.move (fun k hk hl => ⟨HX.out.block k hl, hk⟩))⟩
          have HTTx : Aside0 (TsAt wx anyB At x.ts) := ⟨HTT.out.move (fun g _ hg => HX.out.block g hg)⟩
          clear HWX hgx HO HREP HTT HX HXN hxs a0 b0 b1 b2 b3
          have HBd := Aside0.mk (below_drew (Below.refl wx.heap.size wx))
          have hS : (fun W : World => W.cell? ⟨gx, 0, none⟩ = some (.slice At tl ct) ∧ W.cell? ⟨gx, 1, none⟩ = some (.bool xn) ∧ W.cell? ⟨gx, 2, none⟩ = some (.bool xb)) wx.drew := HSX.out _ HBd.out
          refine wp_region_held (S := (fun W : World => W.cell? ⟨gx, 0, none⟩ = some (.slice At tl ct) ∧ W.cell? ⟨gx, 1, none⟩ = some (.bool xn) ∧ W.cell? ⟨gx, 2, none⟩ = some (.bool xb))) (by kernel_rfl) ?_
          change wpAnyH _ _ _ _ _ _ _ _ wx.drew
          have CC : Aside0 (Calls Tryd.prog 72 #[.slice At tl ct] wx.drew fun e w' => ∃ (C : Option Addr) (q : Nat), e = .returned (.slice C tl q) ∧ tl ≤ q ∧ TsAt w' (fun g => wx.heap.size ≤ g) C x.ts ∧ Below wx.heap.size wx.drew w') := ⟨by
            have := clone_ts (c := ct) (show TsAt wx.drew anyB At x.ts from HTTx.out) HTL2.out.1 HTL2.out.2
            rw [HTL.out] at this
            exact this⟩
          generalize wx.drew = wd at hS HBd CC ⊢
          first | refine tkU 0 hS ?_ | (refine tkV 0 (v := ?_) hS ?_ ?_; rotate_left 1; · (intro w0 hSw; (try dsimp only at hSw); go_split_ands; go_simp; try with_reducible rfl)) | fail
          try simp only [Act.put, pL]
          first | refine tkU 1 hS ?_ | (refine tkV 1 (v := ?_) hS ?_ ?_; rotate_left 1; · (intro w0 hSw; (try dsimp only at hSw); go_split_ands; go_simp; try with_reducible rfl)) | fail
          try simp only [Act.put, pL]
          first | refine tkU 2 hS ?_ | (refine tkV 2 (v := ?_) hS ?_ ?_; rotate_left 1; · (intro w0 hSw; (try dsimp only at hSw); go_split_ands; go_simp; try with_reducible rfl)) | fail
          try simp only [Act.put, pL]
          first | refine tkU 3 hS ?_ | (refine tkV 3 (v := ?_) hS ?_ ?_; rotate_left 1; · (intro w0 hSw; (try dsimp only at hSw); go_split_ands; go_simp; try with_reducible rfl)) | fail
          try simp only [Act.put, pL]
          first | refine tkU 4 hS ?_ | (refine tkV 4 (v := ?_) hS ?_ ?_; rotate_left 1; · (intro w0 hSw; (try dsimp only at hSw); go_split_ands; go_simp; try with_reducible rfl)) | fail
          try simp only [Act.put, pL]
          first | refine tkU 5 hS ?_ | (refine tkV 5 (v := ?_) hS ?_ ?_; rotate_left 1; · (intro w0 hSw; (try dsimp only at hSw); go_split_ands; go_simp; try with_reducible rfl)) | fail
          try simp only [Act.put, pL]
          first | refine tkU 6 hS ?_ | (refine tkV 6 (v := ?_) hS ?_ ?_; rotate_left 1; · (intro w0 hSw; (try dsimp only at hSw); go_split_ands; go_simp; try with_reducible rfl)) | fail
          try simp only [Act.put, pL]
          first | refine tkU 7 hS ?_ | (refine tkV 7 (v := ?_) hS ?_ ?_; rotate_left 1; · (intro w0 hSw; (try dsimp only at hSw); go_split_ands; go_simp; try with_reducible rfl)) | fail
          try simp only [Act.put, pL]
          first | refine tkU 8 hS ?_ | (refine tkV 8 (v := ?_) hS ?_ ?_; rotate_left 1; · (intro w0 hSw; (try dsimp only at hSw); go_split_ands; go_simp; try with_reducible rfl)) | fail
          try simp only [Act.put, pL]
          refine wpAnyH_ready (rs := [9]) (by kernel_rfl) (by simp) ?_
          refine AllReadyH.cons rfl (fun K hK => ?_) AllReadyH.nil
          go_simp
          refine CC.out.mono ?_
          rintro z w3 ⟨C, cq, rfl, hq, hT, hB⟩
          have HB3 : Aside0 (Below wx.heap.size wx w3) := ⟨HBd.out.trans hB⟩
          have HT3 := Aside0.mk hT
          have HQ3 := Aside0.mk hq
          have hS3 := HSX.out _ HB3.out
          refine hK.out _ _ hS3 (fun _ => ?_)
          clear hK K hS hq hT hB CC HBd
          try simp only [Act.put, pL]
          first | refine tkU 10 hS3 ?_ | (refine tkV 10 (v := ?_) hS3 ?_ ?_; rotate_left 1; · (intro w0 hSw; (try dsimp only at hSw); go_split_ands; go_simp; try with_reducible rfl)) | fail
          try simp only [Act.put, pL]
          refine wpAnyH_ready (rs := [11]) (by kernel_rfl) (by simp) ?_
          refine AllReadyH.cons rfl (fun K hK => ?_) AllReadyH.nil
          go_simp
          refine hK.out _ _ (HSX.out _ (HB3.out.trans (below_alloc (Below.refl _ _) _ |>.mono HB3.out.size))) (fun _ => ?_)
          clear hK K hS3
          try simp only [Act.put, pL]
          refine wpAnyH_ready (rs := [12]) (by kernel_rfl) (by simp) ?_
          refine AllReadyH.cons rfl (fun K hK => ?_) AllReadyH.nil
          have hsz3 := HB3.out.size
          have HAS : Aside0 (StpR w3 (fun g => (Value.slice Av l0.length cv).ownBlock ≠ some g) (e.stp i (q + 1)) [.int .i64 (i : Int), .int .i64 ((q : Int) + 1), .bool xb, .bool xn, .slice C tl cq]) := ⟨by
            rw [HSTP.out]
            refine ⟨C, cq, by rw [HTL.out]; rfl, by rw [HTL.out]; exact HQ3.out, HT3.out.mono (fun g hg _ e => ?_)⟩
            have := own_lt HOx.out g e
            omega⟩
          have HR3 : Aside0 (Reps (StpR w3 (fun g => (Value.slice Av l0.length cv).ownBlock ≠ some g)) 5 l0 xs) := ⟨HREPx.out.imp_ (fun y c hy => hy.move (fun k hk hl => ⟨HB3.out.block k hl, hk⟩))⟩
          refine step_append_cells (w0 := w) (W := w3) w.heap.size (by rfl) (.tmp 35) (.tmp 46) 47 56 (.agg #[.int .i64 0, .int .i64 0, .bool false, .bool false, .slice none 0 0]) 5 48 (by rfl) Tryd.underlying47 info_step rfl (by decide) (by decide) (.slice Av l0.length cv) l0.length xs [.int .i64 (i : Int), .int .i64 ((q : Int) + 1), .bool xb, .bool xn, .slice C tl cq] (by rfl) (by rfl) rfl (fun u hu => by simp only [List.mem_cons, List.not_mem_nil, or_false] at hu; rcases hu with rfl | rfl | rfl | rfl | rfl <;> rfl) (pw_own_below HOx.out HB3.out) (w_then' HBx.out HB3.out) (by have := HBx.out.size; omega) (by omega) ?_
          intro v4 w4 ho hb4 hg hat
          have hrep4 := steps_add HR3.out HAS.out hg hat
          obtain ⟨A4, c4, hv4⟩ := own_slice ho
          subst hv4
          have HS4 : Aside0 (StpsR w4 w.heap.size (.slice A4 (l0.length + 1) c4) (e.stepsTo i ++ (rw_.take (k + 1)).map (e.stp i))) := ⟨by
            rw [HTK.out, ← List.append_assoc, HL0.out]
            exact ⟨_, by rw [List.length_append]; exact ho, hrep4⟩⟩
          have HB4 := Aside0.mk hb4
          have hS4 : (fun W : World => W.cell? ⟨gx, 0, none⟩ = some (.slice At tl ct) ∧ W.cell? ⟨gx, 1, none⟩ = some (.bool xn) ∧ W.cell? ⟨gx, 2, none⟩ = some (.bool xb)) w4 := by
            obtain ⟨y0, y1, y2⟩ := HSX.out _ HB3.out
            have hgl : some gx ≠ (Value.slice Av l0.length cv).ownBlock := fun e => by have := HGX.out gx e.symm; omega
            exact ⟨hg.cell y0 hgl, hg.cell y1 hgl, hg.cell y2 hgl⟩
          refine hK.out _ _ hS4 (fun _ => ?_)
          clear hK K hrep4 ho hb4 hg hat HAS HR3
          try simp only [Act.put, pL]
          first | refine tkU 13 hS4 ?_ | (refine tkV 13 (v := ?_) hS4 ?_ ?_; rotate_left 1; · (intro w0 hSw; (try dsimp only at hSw); go_split_ands; go_simp; try with_reducible rfl)) | fail
          try simp only [Act.put, pL]
          refine wpAnyH_done (by kernel_rfl) ?_ _
          go_wp2_with fail
          go_roundw
          case rel => exact ⟨k + 1, by omega, by go_num, HS4, HB4⟩
          case measure => simp [intOf]; omega
        · obtain rfl : k = rl := by omega
          have HS5 : Aside0 (∃ v, StpsR wk w.heap.size v (e.stepsTo (i + 1))) := ⟨⟨_, by have := HR.out; rw [List.take_of_length_le (by omega), ← HNX.out] at this; exact this⟩⟩
          have HR5 := HR
          rw [List.take_of_length_le (by omega), ← HNX.out] at HR5
          clear HR ho hrep
          go_wp2_with fail
          go_roundw
          case rel => exact ⟨i + 1, by omega, by go_num, HR5, HB⟩
          case measure => simp [intOf]; omega
    · obtain rfl : i = M := by omega
      have HRE : Aside0 (∀ x, StpsR wa w.heap.size x (e.stepsTo i) → StepsP w e.steps (.returned x) wa) := ⟨fun x hx => by
        rw [← HM.out, ← HSE.out] at hx
        obtain ⟨A, c, rfl, hr⟩ := hx.reads
        exact ⟨A, c, rfl, hr, HB.out⟩⟩
      go_wp2_with fail
      go_ret
      exact HRE.out _ HR.out
end Go.Proofs.YtbaegfjoionojaaDoor.Qa
