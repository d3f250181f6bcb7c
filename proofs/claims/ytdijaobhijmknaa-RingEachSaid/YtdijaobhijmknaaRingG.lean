/- The walks of IndexFunc and DeleteFunc over triples, and of All. -/
import Derived.Test.YtdijaobhijmknaaRingF
set_option linter.unusedSimpArgs false
set_option linter.unusedVariables false
namespace Go.Proofs.Ytdijaobhijmknaa.Rg
open Go Go.RowKit Go.Proofs.YtdijaobhijmknaaW.PrintWords Go.Proofs.YtdijaobhijmknaaW.PrintLast Go.Proofs.YtdijaobhijmknaaW.PrintMore
attribute [local go_sem] max2_int min2_int max_two min_two

/-- What IndexFunc answers. -/
def IdxP (p z : Tri) (ts : List Tri) (n : Int) : Prop := (n = -1 ∧ ∀ k, k < ts.length → matchB p (ts.getD k z) = true) ∨ ∃ i : Nat, n = i ∧ i < ts.length ∧ (∀ k, k < i → matchB p (ts.getD k z) = true) ∧ matchB p (ts.getD i z) = false
theorem idx_step {p z : Tri} {ts : List Tri} {i : Nat} (h : ∀ k, k < i → matchB p (ts.getD k z) = true) (h2 : matchB p (ts.getD i z) = true) : ∀ k, k < i + 1 → matchB p (ts.getD k z) = true := by
  intro k hk
  by_cases c : k < i
  · exact h k c
  · have : k = i := by omega
    subst this
    exact h2
set_option maxRecDepth 100000 in
set_option maxHeartbeats 1000000 in
theorem indexT_any (A : Option Addr) (c b : Nat) (p z : Tri) (ts : List Tri) (w : World) (hr : Kd.C kT w A ts.length ts) (hp : Boxed w b p) :
    Calls Try.prog 81 #[.slice A ts.length c, .func (.func 72) #[] #[.pointer (some ⟨b, 0, none⟩)]] w fun e w' => ∃ n : Int, e = .returned (.int .i64 n) ∧ IdxP p z ts n ∧ Below w.heap.size w w' := by
  have HR := Aside0.mk hr
  have HP := Aside0.mk hp
  have C := Aside0.mk (fun t w hp => closure_any b p t w hp)
  obtain ⟨n, hn⟩ : ∃ n, n = ts.length := ⟨_, rfl⟩
  have HN := Aside0.mk hn
  have hmax := Kd.C_max hr
  rw [← hn] at HR hmax ⊢
  clear hr hp hn
  go_enter Try.func81, Try.ntmps81
  go_wp2_with fail
  go_loopw [8] (fun x wr => ∃ i : Nat, i ≤ n ∧ x = .int .i64 i ∧ Aside0 (∀ k, k < i → matchB p (ts.getD k z) = true) ∧ Aside0 (Below w.heap.size w wr)) (fun x _ => n - (intOf x).toNat)
  case atStart => exact ⟨0, by omega, rfl, ⟨fun k hk => by omega⟩, ⟨Below.refl _ _⟩⟩
  case round =>
    obtain ⟨i, hi, rfl, HE, HL⟩ := hrel
    by_cases hlt : i < n
    · obtain ⟨ad, rfl, k0, k1, k2⟩ := at3_of (Kd.C_below HR.out HL.out) i hlt z
      obtain ⟨t, ht⟩ : ∃ t, t = ts.getD i z := ⟨_, rfl⟩
      rw [← ht] at k0 k1 k2
      have HT := Aside0.mk ht
      have hi2 : (0 : Int) ≤ (i : Int) := by omega
      have hi3 : (i : Int) < (n : Int) := by omega
      have CT := Aside0.mk (C.out t wr (HP.out.below HL.out))
      unfold Tri.val at CT
      clear ht
      cases hm : matchB p t with
      | true =>
        rw [hm] at CT
        have HM := Aside0.mk hm
        clear hm
        go_wp2_with (go_at_call 72; (with_reducible refine CT.out.mono ?_); rintro e w1 ⟨rfl, hb⟩; have HB := Aside0.mk (below_step HL.out hb); clear hb)
        go_roundw
        case rel => exact ⟨i + 1, by omega, by go_num, ⟨idx_step HE.out (by rw [← HT.out]; exact HM.out)⟩, HB⟩
        case measure => simp [intOf]; omega
      | false =>
        rw [hm] at CT
        have HM := Aside0.mk hm
        clear hm
        go_wp2_with (go_at_call 72; (with_reducible refine CT.out.mono ?_); rintro e w1 ⟨rfl, hb⟩; have HB := Aside0.mk (below_step HL.out hb); clear hb)
        go_ret
        exact ⟨_, rfl, .inr ⟨i, rfl, by rw [← HN.out]; exact hlt, HE.out, by rw [← HT.out]; exact HM.out⟩, HB.out⟩
    · have hin : i = n := by omega
      subst hin
      go_wp2_with fail
      go_ret
      exact ⟨_, rfl, .inl ⟨rfl, by rw [← HN.out]; exact HE.out⟩, HL.out⟩
/-- A store of a whole triple into an own row. -/
theorem put3 {base g n cap : Nat} {W : World} {xs : List Tri} (h : Kd.R kT 54 W base (fun _ => True) (.slice (some ⟨g, 0, none⟩) n cap) xs) (i : Nat) (hi : i < n) (t : Tri) :
    Kd.R kT 54 (((W.setCell ⟨g, i * 3, none⟩ (.int .i64 t.s)).setCell ⟨g, i * 3 + 1, none⟩ (.int .i64 t.p)).setCell ⟨g, i * 3 + 2, none⟩ (.int .i64 t.o)) base (fun _ => True) (.slice (some ⟨g, 0, none⟩) n cap) (xs.set i t) := by
  obtain ⟨h0, inner, hown, hR⟩ := h
  have hn : xs.length = n := by
    rcases hown.2 with ⟨hv, _⟩ | ⟨g', cap', cur, hv, _⟩
    · cases hv
    · injection hv with _ h2 _
      exact h2.symm
  rcases hown.2 with ⟨hv, _⟩ | ⟨g', cap', cur, hv, hbg, hg, hnc, hcm, hcs, htk⟩
  · cases hv
  · injection hv with e1 e2 e3
    have e4 : g' = g := by injection e1 with e1; injection e1 with e1; exact e1.symm
    subst e4 e3
    have hle : i * 3 + t.cells.length ≤ cur.size := by
      have : (kT.sz : Nat) = 3 := rfl
      rw [hcs, this, show t.cells.length = 3 from rfl]; omega
    obtain ⟨cur', h3, h4, h5⟩ := setCells_row t.cells (i * 3) W cur hg hle
    refine ⟨fun _ _ => trivial, inner.take (i * 3) ++ t.cells ++ inner.drop (i * 3 + t.cells.length), ⟨?_, .inr ⟨_, _, cur', ?_, hbg, h3, by rw [List.length_set]; exact hnc, hcm, by rw [h4]; exact hcs, ?_⟩⟩, Kd.reps_set hR (by omega) rfl rfl⟩
    · have := (Kd.reps_set (i := i) (x := t) (seg := t.cells) hR (by omega) rfl rfl).1
      exact this
    · rw [List.length_set, hn]
    · rw [h5, List.length_set, ← htk]
      have hz : (kT.sz : Nat) = 3 := rfl
      have ht3 : t.cells.length = 3 := rfl
      have hc3 : cur.toList.length = cur.size := Array.length_toList
      rw [hz, ht3]
      rw [List.drop_take, List.append_assoc, List.append_assoc, List.take_append, List.take_append, List.take_take, List.take_take, List.length_take, ht3]
      rw [Nat.min_eq_right (by omega : i * 3 ≤ xs.length * 3), Nat.min_eq_left (by omega : i * 3 ≤ xs.length * 3), Nat.min_eq_left (by omega : i * 3 ≤ cur.toList.length), List.take_of_length_le (by rw [ht3]; omega : t.cells.length ≤ xs.length * 3 - i * 3), show xs.length * 3 - i * 3 - 3 = xs.length * 3 - (i * 3 + 3) by omega]
/-- clear of the rest of an own row. -/
theorem clear3 {base g n cap : Nat} {W : World} {xs : List Tri} (h : Kd.R kT 54 W base (fun _ => True) (.slice (some ⟨g, 0, none⟩) n cap) xs) (i : Nat) (hi : i ≤ n) (ty : TypeId) :
    ∃ W1, (Builtin.clear_ #[52] ty #[.slice (if cap = i then some ⟨g, 0, none⟩ else (some (⟨g, 0, none⟩ : Addr)).map (·.add (i * 3))) (n - i) (cap - i)]).run Try.prog W = .ok (.tuple #[]) W1 ∧ Kd.R kT 54 W1 base (fun _ => True) (.slice (some ⟨g, 0, none⟩) i cap) (xs.take i) ∧ ∀ w, Below base w W → Below base w W1 := by
  have hn := (Bs.reads_n h).1
  have hnc2 := (Bs.reads_n h).2.1
  by_cases hz : n - i = 0
  · refine ⟨W, ?_, Kd.R_take h (by omega), fun w hb => hb⟩
    rw [hz]
    split <;> simp [Builtin.clear_, run_underlying Try.underlying52]
  · obtain ⟨h0, inner, hown, hR⟩ := h
    rcases hown.2 with ⟨hv, _⟩ | ⟨g', cap', cur, hv, hbg, hg, hnc, hcm, hcs, htk⟩
    · cases hv
    · injection hv with e1 e2 e3
      have e4 : g' = g := by injection e1 with e1; injection e1 with e1; exact e1.symm
      subst e4 e3
      have hks : (kT.sz : Nat) = 3 := rfl
      rw [hks] at hcs
      have hca : cap ≠ i := by omega
      have had : (if cap = i then some (⟨g', 0, none⟩ : Addr) else (some (⟨g', 0, none⟩ : Addr)).map (·.add (i * 3))) = some ⟨g', i * 3, none⟩ := by
        rw [if_neg hca]
        unfold Addr.add
        by_cases c : i * 3 = 0
        · simp [c]
        · simp [c]
      obtain ⟨zs, hzs⟩ : ∃ zs : List Value, zs = (Builtin.zeroCells #[.int .i64 0, .int .i64 0, .int .i64 0] (n - i)).toList := ⟨_, rfl⟩
      have hzl : zs.length = (n - i) * 3 := by rw [hzs]; simp [Builtin.zeroCells]
      have hz1 : ∀ v ∈ zs, v.oneCell' = true := by
        intro v hv
        rw [hzs] at hv
        simp [Builtin.zeroCells] at hv
        obtain ⟨a, _, rfl⟩ := hv
        have h3 : a % 3 = 0 ∨ a % 3 = 1 ∨ a % 3 = 2 := by omega
        rcases h3 with h3 | h3 | h3 <;> rw [h3] <;> rfl
      have hst := run_storeCells_cells (P := Try.prog) g' (i * 3) zs 0 W (fun j hj => by rw [cell_of_row W g' _ cur 54 (0, 0) hg]; simp; omega) (fun j hj => blk_frozen hg _) hz1
      rw [Nat.add_zero] at hst
      refine ⟨W.setCells g' (i * 3) zs, ?_, ?_, ?_⟩
      · rw [had]
        obtain ⟨m, hm⟩ : ∃ m, n - i = m + 1 := ⟨n - i - 1, by omega⟩
        rw [hm] at hzs ⊢
        obtain ⟨i0, q1, q2, q3, q4⟩ := info_tri_at
        have hzv : ∀ w, (zeroValue 54).run Try.prog w = .ok (.agg #[.int .i64 0, .int .i64 0, .int .i64 0]) w := fun w => by simp [zeroValue, typeInfo, q1, q2]
        have hcc : (Value.agg #[.int .i64 0, .int .i64 0, .int .i64 0]).cells = #[.int .i64 0, .int .i64 0, .int .i64 0] := rfl
        simp [Builtin.clear_, run_underlying Try.underlying52, hzv, hcc, ← hzs, hst]
      · have hfit : i * 3 + zs.length ≤ cur.size := by rw [hzl, hcs]; omega
        obtain ⟨cur', h3, h4, h5⟩ := setCells_row zs (i * 3) W cur hg hfit
        have hlt : (xs.take i).length = i := by rw [List.length_take]; omega
        refine ⟨fun _ _ => trivial, inner.take (i * 3), ⟨?_, .inr ⟨_, _, cur', ?_, hbg, h3, ?_, hcm, by rw [h4, hcs, hks], ?_⟩⟩, Kd.reps_take hR (by omega)⟩
        · exact (Kd.reps_take (m := i) hR (by omega)).1
        · rw [hlt]
        · rw [hlt]; omega
        · rw [hlt, h5, ← htk, hks, List.append_assoc, List.take_left' (by rw [List.length_take, Array.length_toList]; omega), List.take_take, Nat.min_eq_left (by omega)]
      · obtain ⟨s1, s2, s3, s4⟩ := setCells_same g' zs (i * 3) W
        exact fun w hb => ⟨s1.trans hb.os, s2.trans hb.tape, s3.trans hb.output, by rw [s4]; exact hb.size, fun k hk => (setCells_far zs _ k (by omega)).trans (hb.block k hk)⟩
/-- The row while DeleteFunc goes: xs is what lies there, i of ts's first j are kept. -/
def DelI (p z : Tri) (ts xs : List Tri) (i j : Nat) : Prop := i ≤ j ∧ xs.length = ts.length ∧ xs.take i = allL (ts.take j) p ∧ ∀ k, j ≤ k → xs.getD k z = ts.getD k z
theorem getD_set {xs : List Tri} {i k : Nat} {t z : Tri} (h : k ≠ i) : (xs.set i t).getD k z = xs.getD k z := by
  rw [List.getD_eq_getElem?_getD, List.getD_eq_getElem?_getD, List.getElem?_set_ne (Ne.symm h)]
theorem DelI.keep {p z : Tri} {ts xs : List Tri} {i j : Nat} (h : DelI p z ts xs i j) (hj : j < ts.length) (hm : matchB p (ts.getD j z) = true) : DelI p z ts (xs.set i (ts.getD j z)) (i + 1) (j + 1) := by
  obtain ⟨h1, h2, h3, h4⟩ := h
  refine ⟨by omega, by rw [List.length_set]; exact h2, ?_, fun k hk => by rw [getD_set (by omega)]; exact h4 k (by omega)⟩
  rw [allL_step (z := z) hj, if_pos hm, ← h3, List.take_succ_eq_append_getElem (by rw [List.length_set]; omega), List.take_set_of_le (Nat.le_refl _)]
  simp
theorem DelI.skip {p z : Tri} {ts xs : List Tri} {i j : Nat} (h : DelI p z ts xs i j) (hj : j < ts.length) (hm : matchB p (ts.getD j z) = false) : DelI p z ts xs i (j + 1) := by
  obtain ⟨h1, h2, h3, h4⟩ := h
  refine ⟨by omega, h2, ?_, fun k hk => h4 k (by omega)⟩
  rw [allL_step (z := z) hj, if_neg (by rw [hm]; decide), h3]
theorem all_kept {p z : Tri} {ts : List Tri} (h : ∀ k, k < ts.length → matchB p (ts.getD k z) = true) : allL ts p = ts := by
  unfold allL
  rw [List.filter_eq_self]
  intro t ht
  obtain ⟨k, hk, rfl⟩ := List.getElem_of_mem ht
  have := h k hk
  rwa [List.getD_eq_getElem?_getD, List.getElem?_eq_getElem hk] at this
theorem DelI.start {p z : Tri} {ts : List Tri} {i : Nat} (hi : i < ts.length) (h : ∀ k, k < i → matchB p (ts.getD k z) = true) (hm : matchB p (ts.getD i z) = false) : DelI p z ts ts i (i + 1) := by
  refine ⟨by omega, rfl, ?_, fun _ _ => rfl⟩
  rw [allL_step (z := z) hi, if_neg (by rw [hm]; decide)]
  refine (all_kept (z := z) (fun k hk => ?_)).symm
  have hk2 : k < i := by rw [List.length_take] at hk; omega
  have := h k hk2
  rwa [List.getD_eq_getElem?_getD, List.getElem?_take_of_lt hk2, ← List.getD_eq_getElem?_getD]
end Go.Proofs.Ytdijaobhijmknaa.Rg
