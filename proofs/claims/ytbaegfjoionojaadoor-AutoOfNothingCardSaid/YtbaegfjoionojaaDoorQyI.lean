/- The walks of query.IsPath, at paths that may be. -/
import Derived.Test.YtbaegfjoionojaaDoorQyHa
import Derived.Test.YtbaegfjoionojaaDoorTmG
import Derived.Test.YtbaegfjoionojaaDoorQyO
set_option linter.unusedSimpArgs false
set_option linter.unusedVariables false
namespace Go.Proofs.YtbaegfjoionojaaDoor.Qy
open Go Go.RowKit Go.Proofs.YtbaegfjoionojaaDoor.Tm Go.Proofs.YtbaegfjoionojaaDoorW.PrintWords

set_option maxRecDepth 100000 in
set_option maxHeartbeats 8000000 in
theorem kids_any (k : Int) (w : World) : Calls Tryd.prog 93 #[.int .i64 k] w fun e w' => e = .returned (.int .i64 (kidsN k)) ∧ w' = w := by
  by_cases h1 : k = 1
  · subst h1
    go_enter Tryd.func93, Tryd.ntmps93
    go_wp2_with fail
    go_ret
    exact ⟨rfl, rfl⟩
  by_cases h8 : k = 8
  · subst h8
    go_enter Tryd.func93, Tryd.ntmps93
    go_wp2_with fail
    go_ret
    exact ⟨rfl, rfl⟩
  by_cases h2 : k = 2
  · subst h2
    go_enter Tryd.func93, Tryd.ntmps93
    go_wp2_with fail
    go_ret
    exact ⟨rfl, rfl⟩
  by_cases h5 : k = 5
  · subst h5
    go_enter Tryd.func93, Tryd.ntmps93
    go_wp2_with fail
    go_ret
    exact ⟨rfl, rfl⟩
  by_cases h6 : k = 6
  · subst h6
    go_enter Tryd.func93, Tryd.ntmps93
    go_wp2_with fail
    go_ret
    exact ⟨rfl, rfl⟩
  by_cases h7 : k = 7
  · subst h7
    go_enter Tryd.func93, Tryd.ntmps93
    go_wp2_with fail
    go_ret
    exact ⟨rfl, rfl⟩
  by_cases h3 : k = 3
  · subst h3
    go_enter Tryd.func93, Tryd.ntmps93
    go_wp2_with fail
    go_ret
    exact ⟨rfl, rfl⟩
  by_cases h4 : k = 4
  · subst h4
    go_enter Tryd.func93, Tryd.ntmps93
    go_wp2_with fail
    go_ret
    exact ⟨rfl, rfl⟩
  have e1 : (k == 1) = false := by rw [beq_eq_false_iff_ne]; exact h1
  have e8 : (k == 8) = false := by rw [beq_eq_false_iff_ne]; exact h8
  have e2 : (k == 2) = false := by rw [beq_eq_false_iff_ne]; exact h2
  have e5 : (k == 5) = false := by rw [beq_eq_false_iff_ne]; exact h5
  have e6 : (k == 6) = false := by rw [beq_eq_false_iff_ne]; exact h6
  have e7 : (k == 7) = false := by rw [beq_eq_false_iff_ne]; exact h7
  have e3 : (k == 3) = false := by rw [beq_eq_false_iff_ne]; exact h3
  have e4 : (k == 4) = false := by rw [beq_eq_false_iff_ne]; exact h4
  have HK : Aside0 (kidsN k = -1) := ⟨by unfold kidsN; rw [if_neg (by omega), if_neg (by omega), if_neg (by omega)]⟩
  clear h1 h2 h3 h4 h5 h6 h7 h8
  go_enter Tryd.func93, Tryd.ntmps93
  go_wp2_with fail
  go_ret
  exact ⟨by rw [HK.out]; rfl, rfl⟩
set_option maxRecDepth 100000 in
set_option maxHeartbeats 8000000 in
theorem notIRI_any (s : ByteArray) (w : World) (hs : s.size ≤ 140737488351232) (hT : Tabs w) : Calls Tryd.prog 94 #[.string s] w fun e w' => e = .returned (.bool (!iriB s)) ∧ Below w.heap.size w w' := by
  have CI := Aside0.mk (iri_any s w hs hT)
  obtain ⟨x, hx⟩ : ∃ x, iriB s = x := ⟨_, rfl⟩
  rw [hx] at CI ⊢
  clear hT
  go_enter Tryd.func94, Tryd.ntmps94
  go_wp2_with (go_at_call 117; (with_reducible refine CI.out.mono ?_); rintro e w1 ⟨rfl, hb⟩; have HB1 := Aside0.mk hb; clear hb)
  go_ret
  exact ⟨rfl, HB1.out⟩
theorem all_no' {α : Type} {p : α → Bool} {l : List α} {i : Nat} {x : α} (h : l[i]? = some x) (hp : p x = false) : l.all p = false := by
  rw [List.all_eq_false]
  exact ⟨x, List.mem_of_getElem? h, by rw [hp]; decide⟩
theorem all_yes' {α : Type} {p : α → Bool} {l : List α} (h : ∀ (i : Nat) x, l[i]? = some x → p x = true) : l.all p = true := by
  rw [List.all_eq_true]
  intro x hx
  obtain ⟨i, hi, e⟩ := List.getElem_of_mem hx
  exact h i x (by rw [List.getElem?_eq_getElem hi, e])
def IdxP (w : World) (ts : List ByteArray) (e : Ending) (w' : World) : Prop := ∃ x : Int, e = .returned (.int .i64 x) ∧ (0 ≤ x ↔ ts.all iriB = false) ∧ Below w.heap.size w w'
set_option maxRecDepth 100000 in
set_option maxHeartbeats 8000000 in
theorem index_any (A : Option Addr) (c : Nat) (ts : List ByteArray) (ok : Nat → Prop) (w : World) (hts : TsAt w ok A ts) (hz : ∀ t ∈ ts, t.size ≤ 140737488351232) (hT : Tabs w) :
    Calls Tryd.prog 118 #[.slice A ts.length c, .func (.func 94) #[] #[]] w (IdxP w ts) := by
  have HT := Aside0.mk hT
  have HTS := Aside0.mk hts
  have HZ := Aside0.mk hz
  have hn : ts.length ≤ 9223372036854775807 := hts.1
  obtain ⟨n, hne⟩ : ∃ n, ts.length = n := ⟨_, rfl⟩
  have HN := Aside0.mk hne
  rw [hne] at hn ⊢
  clear hts hz hT hne
  by_cases h0 : n = 0
  · subst h0
    go_enter Tryd.func118, Tryd.ntmps118
    go_wp2_with fail
    go_loopw [8] (fun x wr => Aside0 (wr = w) ∧ x = .int .i64 0) (fun x wr => 0)
    case atStart => exact ⟨⟨rfl⟩, rfl⟩
    case round =>
      obtain ⟨hw, rfl⟩ := hrel
      obtain rfl := hw.out
      go_wp2_with fail
      go_ret
      exact ⟨-1, rfl, by
        obtain rfl := List.eq_nil_of_length_eq_zero HN.out
        simp, Below.refl _ _⟩
  · obtain ⟨tb, tf, hA, -, htc⟩ := HTS.out.2 (by rw [HN.out]; omega)
    subst hA
    have HC := Aside0.mk htc
    have hlt : tb < w.heap.size := World.block_lt_of_cell? w _ (htc 0 _ (List.getElem?_eq_getElem (by rw [HN.out]; omega)))
    clear htc
    go_enter Tryd.func118, Tryd.ntmps118
    go_wp2_with fail
    go_loopw [8] (fun x wr => ∃ i : Nat, i ≤ n ∧ x = .int .i64 i ∧ Aside0 (Below w.heap.size w wr) ∧ Aside0 (∀ (j : Nat) t, j < i → ts[j]? = some t → iriB t = true)) (fun x _ => n - (intOf x).toNat)
    case atStart => exact ⟨0, by omega, rfl, ⟨Below.refl _ _⟩, ⟨fun j t h => by omega⟩⟩
    case round =>
      obtain ⟨wv, rfl⟩ : ∃ x, x = wr := ⟨wr, rfl⟩
      obtain ⟨i, hi, rfl, HB, HA⟩ := hrel
      by_cases hin : i < n
      · obtain ⟨t, ht⟩ : ∃ t, ts[i]? = some t := ⟨ts[i]'(by rw [HN.out]; exact hin), List.getElem?_eq_getElem _⟩
        have hcell : wv.cell? ⟨tb, tf + i, none⟩ = some (.string t) := (HB.out.cell (p := ⟨tb, tf + i, none⟩) hlt).trans (HC.out i t ht)
        have CI := Aside0.mk (notIRI_any t wv (HZ.out t (List.mem_of_getElem? ht)) (HT.out.below HB.out))
        have g0 : (0 : Int) ≤ (i : Int) := by omega
        have g1 : (i : Int) < (n : Int) := by omega
        cases hx : iriB t with
        | true =>
          rw [hx] at CI
          simp only [Bool.not_true] at CI
          have HA2 : Aside0 (∀ (j : Nat) t, j < i + 1 → ts[j]? = some t → iriB t = true) := ⟨fun j t' h1 h2 => by
            by_cases hj : j = i
            · subst hj
              obtain rfl : t = t' := Option.some.inj (ht.symm.trans h2)
              exact hx
            · exact HA.out j t' (by omega) h2⟩
          clear ht hx
          go_wp2_with (go_at_call 94; (with_reducible refine CI.out.mono ?_); rintro e w2 ⟨rfl, hb⟩; have HB2 := Aside0.mk (below_then HB.out HB.out.size hb); clear hb)
          go_roundw
          case rel => exact ⟨i + 1, by omega, by go_num, HB2, HA2⟩
          case measure => simp [intOf]; omega
        | false =>
          rw [hx] at CI
          simp only [Bool.not_false] at CI
          have HNO : Aside0 (ts.all iriB = false) := ⟨all_no' ht hx⟩
          clear ht hx
          go_wp2_with (go_at_call 94; (with_reducible refine CI.out.mono ?_); rintro e w2 ⟨rfl, hb⟩; have HB2 := Aside0.mk (below_then HB.out HB.out.size hb); clear hb)
          go_ret
          exact ⟨i, rfl, by rw [HNO.out]; simp, HB2.out⟩
      · go_wp2_with fail
        go_ret
        exact ⟨-1, rfl, by
          rw [all_yes' (fun j t h => HA.out j t (by have := (List.getElem?_eq_some_iff.1 h).1; rw [HN.out] at this; omega) h)]
          simp, HB.out⟩
set_option maxRecDepth 100000 in
set_option maxHeartbeats 8000000 in
theorem contains_any (A : Option Addr) (c : Nat) (ts : List ByteArray) (ok : Nat → Prop) (w : World) (hts : TsAt w ok A ts) (hz : ∀ t ∈ ts, t.size ≤ 140737488351232) (hT : Tabs w) :
    Calls Tryd.prog 95 #[.slice A ts.length c, .func (.func 94) #[] #[]] w fun e w' => e = .returned (.bool (!ts.all iriB)) ∧ Below w.heap.size w w' := by
  have CI := Aside0.mk (index_any A c ts ok w hts hz hT)
  obtain ⟨b, hb⟩ : ∃ b, ts.all iriB = b := ⟨_, rfl⟩
  have HBB := Aside0.mk hb
  rw [hb]
  clear hts hz hT hb
  go_enter Tryd.func95, Tryd.ntmps95
  go_wp2_with (go_at_call 118; (with_reducible refine CI.out.mono ?_); rintro e w1 ⟨x, rfl, hx, hb⟩; have HX := Aside0.mk hx; have HB1 := Aside0.mk hb; clear hx hb)
  go_ret
  exact ⟨ret_b (by
    have := HX.out
    rw [HBB.out] at this
    cases b with
    | true => simp only [Bool.true_eq_false, iff_false] at this; simp; omega
    | false => simp only [iff_true] at this; simp; omega), HB1.out⟩
def CountC (p : Pth) (d r : Nat) : Prop := ∀ (w : World) (ok : Nat → Prop) (k : Int) (t : ByteArray) (A : Option Addr) (n c : Nat) (B : Option Addr) (m e : Nat), PathAt w ok p [.int .i64 k, .string t, .slice A n c, .slice B m e] → Tabs w → Calls Tryd.prog 65 #[.agg #[.int .i64 k, .string t, .slice A n c, .slice B m e], .int .i64 (d : Int)] w fun e w' => e = .returned (.int .i64 (r : Int)) ∧ Below w.heap.size w w'
def cnt (d : Nat) (q : Pth) : Nat := (countP q d).getD 0
def pre (d : Nat) (l : List Pth) (i : Nat) : Nat := ((l.take i).map (cnt d)).sum
theorem countL_all : ∀ (l : List Pth) (d m : Nat), countL l d = some m → (∀ q ∈ l, countP q d = some (cnt d q)) ∧ (l.map (cnt d)).sum = m
  | [], d, m, h => by
    simp [countL] at h
    exact ⟨by simp, by simp [h]⟩
  | p :: l, d, m, h => by
    unfold countL at h
    split at h
    · cases h
    · rename_i n hn
      simp only [Option.map_eq_some_iff] at h
      obtain ⟨b, h1, h2⟩ := h
      obtain ⟨h3, h4⟩ := countL_all l d b h1
      refine ⟨fun q hq => ?_, ?_⟩
      · rcases List.mem_cons.1 hq with rfl | hq
        · unfold cnt; rw [hn]; rfl
        · exact h3 q hq
      · rw [List.map_cons, List.sum_cons, h4, ← h2]
        unfold cnt; rw [hn]; rfl
theorem pre_step {d : Nat} {l : List Pth} {i : Nat} {q : Pth} (h : l[i]? = some q) : pre d l (i + 1) = pre d l i + cnt d q := by
  unfold pre
  obtain ⟨hi, e⟩ := List.getElem?_eq_some_iff.1 h
  rw [List.take_succ_eq_append_getElem hi, e]
  simp
theorem pre_le (d : Nat) (l : List Pth) (i : Nat) : pre d l i ≤ (l.map (cnt d)).sum := by
  unfold pre
  conv => rhs; rw [← List.take_append_drop i l, List.map_append, List.sum_append]
  omega
theorem toList_ne {t : ByteArray} (h : 0 < t.size) : t.toList.isEmpty = false ∧ (t.toList == []) = false ∧ (t.toList != []) = true := by
  have h1 := string_ne h
  have h2 : t.toList ≠ [] := fun e => by rw [e] at h1; cases h1
  exact ⟨h1, by rw [beq_eq_false_iff_ne]; exact h2, by rw [bne_iff_ne]; exact h2⟩
theorem iri_pos {t : ByteArray} (h : iriB t = true) : 0 < t.size := by
  unfold iriB at h; simp at h; omega
set_option maxRecDepth 100000 in
set_option maxHeartbeats 8000000 in
theorem count_g1 (t0 : ByteArray) (ks : List Pth) (d m : Nat) (hd : d ≤ 5) (hk : (ks.length : Int) = kidsN 1) (ht : iriB t0 = true) (hm : countL ks (d + 1) = some m) (hm2 : m ≤ 1000) (ih : ∀ q ∈ ks, CountC q (d + 1) (cnt (d + 1) q)) : CountC (.mk 1 t0 [] ks) d (m + 1) := by
  intro w ok k9 t A n9 c B m9 e hp hT
  obtain ⟨A1, c1, B1, e1, e0, hc1, hd1, hd2, hts, hks⟩ := path_cells hp
  simp only [List.cons.injEq, Value.int.injEq, Value.string.injEq, Value.slice.injEq, true_and, and_true, List.length_nil] at e0 hc1
  obtain ⟨rfl, rfl, ⟨rfl, rfl, rfl⟩, rfl, rfl, rfl⟩ := e0
  obtain ⟨wb, hwb, HB, HN⟩ := boxP w 1 t A 0 c B ks.length e
  have HHW : Aside0 (w.alloc (.cells #[.int .i64 1, .string t, .slice A 0 c, .slice B ks.length e] 25) = wb) := ⟨hwb.symm⟩
  have HTb := Aside0.mk (hT.below HB.out)
  have hg : decide ((5 : Int) < (d : Int)) = false := by rw [decide_eq_false_iff_not]; omega
  obtain ⟨hall, hsum⟩ := countL_all ks (d + 1) m hm
  have HKS := Aside0.mk (KidsAt.move (w := w) (w1 := wb) (fun g _ hg => HB.out.block g hg) ks hks)
  have HTS : Aside0 (TsAt wb ok A []) := ⟨hts.move (fun g _ hg => HB.out.block g hg)⟩
  have HIH := Aside0.mk ih
  have hkl : ks.length ≤ 2 := by unfold kidsN at hk; repeat' split at hk <;> omega
  have CK : Aside0 (∀ W, Calls Tryd.prog 93 #[.int .i64 1] W fun e w' => e = .returned (.int .i64 (ks.length : Int)) ∧ w' = W) := ⟨fun W => by
    have := kids_any 1 W
    rwa [← hk] at this⟩
  have CC : Aside0 (∀ W, Below wb.heap.size wb W → Calls Tryd.prog 95 #[.slice A 0 c, .func (.func 94) #[] #[]] W fun e w' => e = .returned (.bool false) ∧ Below W.heap.size W w') := ⟨fun W hW => by
    have := contains_any A c [] ok W (HTS.out.move (fun g _ hg => hW.block g hg)) (fun t h => by cases h) (HTb.out.below hW)
    rwa [show (!([] : List ByteArray).all iriB) = false from rfl] at this⟩
  obtain ⟨n1, n2, n3⟩ := toList_ne (iri_pos ht)
  have hz := iri_size ht
  have CI : Aside0 (∀ W, Below wb.heap.size wb W → Calls Tryd.prog 94 #[.string t] W fun e w' => e = .returned (.bool false) ∧ Below W.heap.size W w') := ⟨fun W hW => by
    have := notIRI_any t W (by omega) (HTb.out.below hW)
    rwa [ht] at this⟩
  clear ht
  have HS : Aside0 (∀ W, Below wb.heap.size wb W → (fun W : World => W.cell? ⟨w.heap.size, 0, none⟩ = some (.int .i64 1) ∧ W.cell? ⟨w.heap.size, 1, none⟩ = some (.string t) ∧ W.cell? ⟨w.heap.size, 2, none⟩ = some (.slice A 0 c) ∧ W.cell? ⟨w.heap.size, 3, none⟩ = some (.slice B ks.length e)) W) := ⟨fun W h => ⟨(blk_cell (blk_below HN.out h) 0).trans rfl, (blk_cell (blk_below HN.out h) 1).trans rfl, (blk_cell (blk_below HN.out h) 2).trans rfl, (blk_cell (blk_below HN.out h) 3).trans rfl⟩⟩
  have HSUM := Aside0.mk hsum
  have HALL := Aside0.mk hall
  clear hwb hp hts hks hall hsum hm ih hk hT
  go_enter Tryd.func65, Tryd.ntmps65
  go_upto_region 1 with (fail)
  rw [HHW.out]
  have q0 := blk_cell HN.out 0
  have q1 := blk_cell HN.out 1
  have q2 := blk_cell HN.out 2
  have q3 := blk_cell HN.out 3
  simp at q0 q1 q2 q3
  go_upto_region 3 with (fail)
  clear q0 q1 q2 q3
  have hS : (fun W : World => W.cell? ⟨w.heap.size, 0, none⟩ = some (.int .i64 1) ∧ W.cell? ⟨w.heap.size, 1, none⟩ = some (.string t) ∧ W.cell? ⟨w.heap.size, 2, none⟩ = some (.slice A 0 c) ∧ W.cell? ⟨w.heap.size, 3, none⟩ = some (.slice B ks.length e)) wb.drew := HS.out _ (below_drew (Below.refl wb.heap.size wb))
  refine wp_region_held (S := (fun W : World => W.cell? ⟨w.heap.size, 0, none⟩ = some (.int .i64 1) ∧ W.cell? ⟨w.heap.size, 1, none⟩ = some (.string t) ∧ W.cell? ⟨w.heap.size, 2, none⟩ = some (.slice A 0 c) ∧ W.cell? ⟨w.heap.size, 3, none⟩ = some (.slice B ks.length e))) (by kernel_rfl) ?_
  change wpAnyH _ _ _ _ _ _ _ _ wb.drew
  first | refine tkU 0 hS ?_ | (refine tkV 0 (v := ?_) hS ?_ ?_; rotate_left 1; · (intro w0 hSw; (try dsimp only at hSw); go_split_ands; go_simp; try with_reducible rfl)) | fail
  try simp only [Act.put, pL]
  first | refine tkU 1 hS ?_ | (refine tkV 1 (v := ?_) hS ?_ ?_; rotate_left 1; · (intro w0 hSw; (try dsimp only at hSw); go_split_ands; go_simp; try with_reducible rfl)) | fail
  try simp only [Act.put, pL]
  first | refine tkU 2 hS ?_ | (refine tkV 2 (v := ?_) hS ?_ ?_; rotate_left 1; · (intro w0 hSw; (try dsimp only at hSw); go_split_ands; go_simp; try with_reducible rfl)) | fail
  try simp only [Act.put, pL]
  first | refine tkU 3 hS ?_ | (refine tkV 3 (v := ?_) hS ?_ ?_; rotate_left 1; · (intro w0 hSw; (try dsimp only at hSw); go_split_ands; go_simp; try with_reducible rfl)) | fail
  try simp only [Act.put, pL]
  first | refine tkU 4 hS ?_ | (refine tkV 4 (v := ?_) hS ?_ ?_; rotate_left 1; · (intro w0 hSw; (try dsimp only at hSw); go_split_ands; go_simp; try with_reducible rfl)) | fail
  try simp only [Act.put, pL]
  first | refine tkU 5 hS ?_ | (refine tkV 5 (v := ?_) hS ?_ ?_; rotate_left 1; · (intro w0 hSw; (try dsimp only at hSw); go_split_ands; go_simp; try with_reducible rfl)) | fail
  try simp only [Act.put, pL]
  first | refine tkU 6 hS ?_ | (refine tkV 6 (v := ?_) hS ?_ ?_; rotate_left 1; · (intro w0 hSw; (try dsimp only at hSw); go_split_ands; go_simp; try with_reducible rfl)) | fail
  try simp only [Act.put, pL]
  first | refine tkU 7 hS ?_ | (refine tkV 7 (v := ?_) hS ?_ ?_; rotate_left 1; · (intro w0 hSw; (try dsimp only at hSw); go_split_ands; go_simp; try with_reducible rfl)) | fail
  try simp only [Act.put, pL]
  refine wpAnyH_ready (rs := [8]) (by kernel_rfl) (by simp) ?_
  refine AllReadyH.cons rfl (fun K hK => ?_) AllReadyH.nil
  go_simp
  refine (CK.out _).mono ?_
  rintro e w1 ⟨rfl, rfl⟩
  refine hK.out _ _ hS (fun _ => ?_)
  clear hK K
  try simp only [Act.put, pL]
  first | refine tkU 9 hS ?_ | (refine tkV 9 (v := ?_) hS ?_ ?_; rotate_left 1; · (intro w0 hSw; (try dsimp only at hSw); go_split_ands; go_simp; try with_reducible rfl)) | fail
  try simp only [Act.put, pL]
  first | refine tkU 10 hS ?_ | (refine tkV 10 (v := ?_) hS ?_ ?_; rotate_left 1; · (intro w0 hSw; (try dsimp only at hSw); go_split_ands; go_simp; try with_reducible rfl)) | fail
  try simp only [Act.put, pL]
  first | refine tkU 11 hS ?_ | (refine tkV 11 (v := ?_) hS ?_ ?_; rotate_left 1; · (intro w0 hSw; (try dsimp only at hSw); go_split_ands; go_simp; try with_reducible rfl)) | fail
  try simp only [Act.put, pL]
  first | refine tkU 12 hS ?_ | (refine tkV 12 (v := ?_) hS ?_ ?_; rotate_left 1; · (intro w0 hSw; (try dsimp only at hSw); go_split_ands; go_simp; try with_reducible rfl)) | fail
  try simp only [Act.put, pL]
  first | refine tkU 13 hS ?_ | (refine tkV 13 (v := ?_) hS ?_ ?_; rotate_left 1; · (intro w0 hSw; (try dsimp only at hSw); go_split_ands; go_simp; try with_reducible rfl)) | fail
  try simp only [Act.put, pL]
  first | refine tkU 14 hS ?_ | (refine tkV 14 (v := ?_) hS ?_ ?_; rotate_left 1; · (intro w0 hSw; (try dsimp only at hSw); go_split_ands; go_simp; try with_reducible rfl)) | fail
  try simp only [Act.put, pL]
  first | refine tkU 15 hS ?_ | (refine tkV 15 (v := ?_) hS ?_ ?_; rotate_left 1; · (intro w0 hSw; (try dsimp only at hSw); go_split_ands; go_simp; try with_reducible rfl)) | fail
  try simp only [Act.put, pL]
  first | refine tkU 16 hS ?_ | (refine tkV 16 (v := ?_) hS ?_ ?_; rotate_left 1; · (intro w0 hSw; (try dsimp only at hSw); go_split_ands; go_simp; try with_reducible rfl)) | fail
  try simp only [Act.put, pL]
  first | refine tkU 17 hS ?_ | (refine tkV 17 (v := ?_) hS ?_ ?_; rotate_left 1; · (intro w0 hSw; (try dsimp only at hSw); go_split_ands; go_simp; try with_reducible rfl)) | fail
  try simp only [Act.put, pL]
  first | refine tkU 18 hS ?_ | (refine tkV 18 (v := ?_) hS ?_ ?_; rotate_left 1; · (intro w0 hSw; (try dsimp only at hSw); go_split_ands; go_simp; try with_reducible rfl)) | fail
  try simp only [Act.put, pL]
  first | refine tkU 19 hS ?_ | (refine tkV 19 (v := ?_) hS ?_ ?_; rotate_left 1; · (intro w0 hSw; (try dsimp only at hSw); go_split_ands; go_simp; try with_reducible rfl)) | fail
  try simp only [Act.put, pL]
  first | refine tkU 20 hS ?_ | (refine tkV 20 (v := ?_) hS ?_ ?_; rotate_left 1; · (intro w0 hSw; (try dsimp only at hSw); go_split_ands; go_simp; try with_reducible rfl)) | fail
  try simp only [Act.put, pL]
  first | refine tkU 21 hS ?_ | (refine tkV 21 (v := ?_) hS ?_ ?_; rotate_left 1; · (intro w0 hSw; (try dsimp only at hSw); go_split_ands; go_simp; try with_reducible rfl)) | fail
  try simp only [Act.put, pL]
  first | refine tkU 22 hS ?_ | (refine tkV 22 (v := ?_) hS ?_ ?_; rotate_left 1; · (intro w0 hSw; (try dsimp only at hSw); go_split_ands; go_simp; try with_reducible rfl)) | fail
  try simp only [Act.put, pL]
  first | refine tkU 23 hS ?_ | (refine tkV 23 (v := ?_) hS ?_ ?_; rotate_left 1; · (intro w0 hSw; (try dsimp only at hSw); go_split_ands; go_simp; try with_reducible rfl)) | fail
  try simp only [Act.put, pL]
  first | refine tkU 24 hS ?_ | (refine tkV 24 (v := ?_) hS ?_ ?_; rotate_left 1; · (intro w0 hSw; (try dsimp only at hSw); go_split_ands; go_simp; try with_reducible rfl)) | fail
  try simp only [Act.put, pL]
  first | refine tkU 25 hS ?_ | (refine tkV 25 (v := ?_) hS ?_ ?_; rotate_left 1; · (intro w0 hSw; (try dsimp only at hSw); go_split_ands; go_simp; try with_reducible rfl)) | fail
  try simp only [Act.put, pL]
  first | refine tkU 26 hS ?_ | (refine tkV 26 (v := ?_) hS ?_ ?_; rotate_left 1; · (intro w0 hSw; (try dsimp only at hSw); go_split_ands; go_simp; try with_reducible rfl)) | fail
  try simp only [Act.put, pL]
  first | refine tkU 27 hS ?_ | (refine tkV 27 (v := ?_) hS ?_ ?_; rotate_left 1; · (intro w0 hSw; (try dsimp only at hSw); go_split_ands; go_simp; try with_reducible rfl)) | fail
  try simp only [Act.put, pL]
  first | refine tkU 28 hS ?_ | (refine tkV 28 (v := ?_) hS ?_ ?_; rotate_left 1; · (intro w0 hSw; (try dsimp only at hSw); go_split_ands; go_simp; try with_reducible rfl)) | fail
  try simp only [Act.put, pL]
  first | refine tkU 29 hS ?_ | (refine tkV 29 (v := ?_) hS ?_ ?_; rotate_left 1; · (intro w0 hSw; (try dsimp only at hSw); go_split_ands; go_simp; try with_reducible rfl)) | fail
  try simp only [Act.put, pL]
  first | refine tkU 30 hS ?_ | (refine tkV 30 (v := ?_) hS ?_ ?_; rotate_left 1; · (intro w0 hSw; (try dsimp only at hSw); go_split_ands; go_simp; try with_reducible rfl)) | fail
  try simp only [Act.put, pL]
  first | refine tkU 31 hS ?_ | (refine tkV 31 (v := ?_) hS ?_ ?_; rotate_left 1; · (intro w0 hSw; (try dsimp only at hSw); go_split_ands; go_simp; try with_reducible rfl)) | fail
  try simp only [Act.put, pL]
  refine wpAnyH_ready (rs := [32]) (by kernel_rfl) (by simp) ?_
  refine AllReadyH.cons rfl (fun K hK => ?_) AllReadyH.nil
  go_simp
  refine (CI.out _ (below_drew (Below.refl wb.heap.size wb))).mono ?_
  rintro e w1 ⟨rfl, hb⟩
  have HB1 := Aside0.mk (below_then (below_drew (Below.refl wb.heap.size wb)) (Nat.le_refl _) hb)
  clear hb hS
  have hS : (fun W : World => W.cell? ⟨w.heap.size, 0, none⟩ = some (.int .i64 1) ∧ W.cell? ⟨w.heap.size, 1, none⟩ = some (.string t) ∧ W.cell? ⟨w.heap.size, 2, none⟩ = some (.slice A 0 c) ∧ W.cell? ⟨w.heap.size, 3, none⟩ = some (.slice B ks.length e)) w1 := HS.out _ HB1.out
  refine hK.out _ _ hS (fun _ => ?_)
  clear hK K
  try simp only [Act.put, pL]
  first | refine tkU 33 hS ?_ | (refine tkV 33 (v := ?_) hS ?_ ?_; rotate_left 1; · (intro w0 hSw; (try dsimp only at hSw); go_split_ands; go_simp; try with_reducible rfl)) | fail
  try simp only [Act.put, pL]
  first | refine tkU 34 hS ?_ | (refine tkV 34 (v := ?_) hS ?_ ?_; rotate_left 1; · (intro w0 hSw; (try dsimp only at hSw); go_split_ands; go_simp; try with_reducible rfl)) | fail
  try simp only [Act.put, pL]
  first | refine tkU 35 hS ?_ | (refine tkV 35 (v := ?_) hS ?_ ?_; rotate_left 1; · (intro w0 hSw; (try dsimp only at hSw); go_split_ands; go_simp; try with_reducible rfl)) | fail
  try simp only [Act.put, pL]
  first | refine tkU 36 hS ?_ | (refine tkV 36 (v := ?_) hS ?_ ?_; rotate_left 1; · (intro w0 hSw; (try dsimp only at hSw); go_split_ands; go_simp; try with_reducible rfl)) | fail
  try simp only [Act.put, pL]
  first | refine tkU 37 hS ?_ | (refine tkV 37 (v := ?_) hS ?_ ?_; rotate_left 1; · (intro w0 hSw; (try dsimp only at hSw); go_split_ands; go_simp; try with_reducible rfl)) | fail
  try simp only [Act.put, pL]
  refine wpAnyH_ready (rs := [38]) (by kernel_rfl) (by simp) ?_
  refine AllReadyH.cons rfl (fun K hK => ?_) AllReadyH.nil
  go_simp
  refine (CC.out _ HB1.out).mono ?_
  rintro e w2 ⟨rfl, hb⟩
  have HB2 := Aside0.mk (below_then HB1.out HB1.out.size hb)
  clear hb hS
  have hS : (fun W : World => W.cell? ⟨w.heap.size, 0, none⟩ = some (.int .i64 1) ∧ W.cell? ⟨w.heap.size, 1, none⟩ = some (.string t) ∧ W.cell? ⟨w.heap.size, 2, none⟩ = some (.slice A 0 c) ∧ W.cell? ⟨w.heap.size, 3, none⟩ = some (.slice B ks.length e)) w2 := HS.out _ HB2.out
  refine hK.out _ _ hS (fun _ => ?_)
  clear hK K
  try simp only [Act.put, pL]
  first | refine tkU 39 hS ?_ | (refine tkV 39 (v := ?_) hS ?_ ?_; rotate_left 1; · (intro w0 hSw; (try dsimp only at hSw); go_split_ands; go_simp; try with_reducible rfl)) | fail
  try simp only [Act.put, pL]
  refine wpAnyH_done (by kernel_rfl) ?_ _
  obtain ⟨q0, q1, q2, q3⟩ := hS
  have HBw : Aside0 (Below w.heap.size w w2) := ⟨HB.out.trans (HB2.out.mono HB.out.size)⟩
  have HP0 : Aside0 (pre (d + 1) ks 0 = 0) := ⟨rfl⟩
  go_wp2_with fail
  go_loopw [7, 69] (fun x y wr => ∃ i : Nat, i ≤ ks.length ∧ y = .int .i64 i ∧ x = .int .i64 ((1 + pre (d + 1) ks i : Nat) : Int) ∧ Aside0 (Below wb.heap.size wb wr)) (fun _ y _ => ks.length - (intOf y).toNat)
  case atStart => exact ⟨0, by omega, rfl, by rw [HP0.out]; rfl, HB2⟩
  case round =>
    clear q0 q1 q2 q3 HB2 HBw
    obtain ⟨wv, rfl⟩ : ∃ x, x = wr := ⟨wr, rfl⟩
    obtain ⟨i, hi, rfl, rfl, HBv⟩ := hrel
    have hpl := pre_le (d + 1) ks i
    rw [HSUM.out] at hpl
    obtain ⟨P, hP⟩ : ∃ P, pre (d + 1) ks i = P := ⟨_, rfl⟩
    rw [hP] at hpl ⊢
    have HP := Aside0.mk hP
    clear hP
    have hpc : ((1 + P : Nat) : Int) = 1 + (P : Int) := by omega
    rw [hpc]
    by_cases hin : i < ks.length
    · obtain ⟨q, hq⟩ : ∃ q, ks[i]? = some q := ⟨ks[i]'hin, List.getElem?_eq_getElem _⟩
      obtain ⟨kb, ko, cs', hB, -, hcell, hpq⟩ := KidsAt.get _ (KidsAt.move (w := wb) (w1 := wv) (fun g _ hg => HBv.out.block g hg) ks HKS.out) i q hq
      have hcq := HIH.out q (List.mem_of_getElem? hq)
      have hst := pre_step (d := d + 1) hq
      have hpl2 := pre_le (d + 1) ks (i + 1)
      rw [HSUM.out, hst, HP.out] at hpl2
      rw [HP.out] at hst
      obtain ⟨r, hr⟩ : ∃ r, cnt (d + 1) q = r := ⟨_, rfl⟩
      rw [hr] at hst hcq hpl2
      have HST := Aside0.mk hst
      obtain ⟨k', t', ts', ks'⟩ := q
      obtain ⟨A', cc', B', d', rfl, -⟩ := path_cells hpq
      subst hB
      have a0 := hcell 0 _ rfl
      have a1 := hcell 1 _ rfl
      have a2 := hcell 2 _ rfl
      have a3 := hcell 3 _ rfl
      simp at a0 a1 a2 a3
      have CC : Aside0 (∀ W, Below wv.heap.size wv W → Calls Tryd.prog 65 #[.agg #[.int .i64 k', .string t', .slice A' ts'.length cc', .slice B' ks'.length d'], .int .i64 ((d : Int) + 1)] W fun e w' => e = .returned (.int .i64 (r : Int)) ∧ Below W.heap.size W w') := ⟨fun W hW => by
        have := hcq W ok k' t' A' ts'.length cc' B' ks'.length d' (hpq.below hW) ((HTb.out.below HBv.out).below hW)
        rwa [show (((d + 1 : Nat)) : Int) = (d : Int) + 1 by omega] at this⟩
      have g0 : (0 : Int) ≤ (i : Int) := by omega
      have g1 : (i : Int) < (ks.length : Int) := by omega
      clear hq hcell hpq hcq hst hr
      go_upto_region 9 with (fail)
      obtain ⟨wy, hwy, HY, HNy⟩ := boxP wv k' t' A' ts'.length cc' B' ks'.length d'
      rw [← hwy]
      have z0 := blk_cell HNy.out 0
      have z1 := blk_cell HNy.out 1
      have z2 := blk_cell HNy.out 2
      have z3 := blk_cell HNy.out 3
      simp at z0 z1 z2 z3
      clear hwy a0 a1 a2 a3
      go_wp2_with (go_at_call 65; (with_reducible refine (CC.out _ HY.out).mono ?_); rintro e w4 ⟨rfl, hb⟩; have HB4 := Aside0.mk (below_then (below_then HBv.out HBv.out.size HY.out) (Nat.le_trans HBv.out.size HY.out.size) hb); clear hb)
      go_roundw
      case rel => exact ⟨i + 1, by omega, by go_num, by rw [HST.out]; congr 1; first | omega | (push_cast; omega), HB4⟩
      case measure => simp [intOf]; omega
    · have hil : i = ks.length := by omega
      have HFIN : Aside0 (P = m) := ⟨by
        rw [← HP.out, hil]
        unfold pre
        rw [List.take_length]
        exact HSUM.out⟩
      go_wp2_with fail
      go_ret
      have hfin : 1 + (P : Int) = ((m + 1 : Nat) : Int) := by have := HFIN.out; omega
      refine ⟨?_, HB.out.trans (HBv.out.mono HB.out.size)⟩
      rw [← hfin]
      rfl
set_option maxRecDepth 100000 in
set_option maxHeartbeats 8000000 in
theorem count_g8 (ts : List ByteArray) (ks : List Pth) (d m : Nat) (hd : d ≤ 5) (hk : (ks.length : Int) = kidsN 8) (h1 : 1 ≤ ts.length) (h4 : ts.length ≤ 4) (hi : ts.all iriB = true) (hm : countL ks (d + 1) = some m) (hm2 : m ≤ 1000) (ih : ∀ q ∈ ks, CountC q (d + 1) (cnt (d + 1) q)) : CountC (.mk 8 ⟨#[]⟩ ts ks) d (m + 1) := by
  intro w ok k9 t9 A n9 c B m9 e hp hT
  obtain ⟨A1, c1, B1, e1, e0, hc1, hd1, hd2, hts, hks⟩ := path_cells hp
  simp only [List.cons.injEq, Value.int.injEq, Value.string.injEq, Value.slice.injEq, true_and, and_true, List.length_nil] at e0 hc1
  obtain ⟨rfl, rfl, ⟨rfl, rfl, rfl⟩, rfl, rfl, rfl⟩ := e0
  obtain ⟨wb, hwb, HB, HN⟩ := boxP w 8 ⟨#[]⟩ A ts.length c B ks.length e
  have HHW : Aside0 (w.alloc (.cells #[.int .i64 8, .string ⟨#[]⟩, .slice A ts.length c, .slice B ks.length e] 25) = wb) := ⟨hwb.symm⟩
  have HTb := Aside0.mk (hT.below HB.out)
  have hg : decide ((5 : Int) < (d : Int)) = false := by rw [decide_eq_false_iff_not]; omega
  obtain ⟨hall, hsum⟩ := countL_all ks (d + 1) m hm
  have HKS := Aside0.mk (KidsAt.move (w := w) (w1 := wb) (fun g _ hg => HB.out.block g hg) ks hks)
  have HTS : Aside0 (TsAt wb ok A ts) := ⟨hts.move (fun g _ hg => HB.out.block g hg)⟩
  have HIH := Aside0.mk ih
  have hkl : ks.length ≤ 2 := by unfold kidsN at hk; repeat' split at hk <;> omega
  have CK : Aside0 (∀ W, Calls Tryd.prog 93 #[.int .i64 8] W fun e w' => e = .returned (.int .i64 (ks.length : Int)) ∧ w' = W) := ⟨fun W => by
    have := kids_any 8 W
    rwa [← hk] at this⟩
  have CC : Aside0 (∀ W, Below wb.heap.size wb W → Calls Tryd.prog 95 #[.slice A ts.length c, .func (.func 94) #[] #[]] W fun e w' => e = .returned (.bool false) ∧ Below W.heap.size W w') := ⟨fun W hW => by
    have := contains_any A c ts ok W (HTS.out.move (fun g _ hg => hW.block g hg)) (fun t h => by have := iri_size (List.all_eq_true.1 hi t h); omega) (HTb.out.below hW)
    rwa [hi] at this⟩
  have n3 : decide (0 < ts.length) = true := by rw [decide_eq_true_eq]; omega
  have n4 : decide (4 < ts.length) = false := by rw [decide_eq_false_iff_not]; omega
  have n2 : decide ((4 : Int) < (ts.length : Int)) = false := by rw [decide_eq_false_iff_not]; omega
  clear hi
  have HS : Aside0 (∀ W, Below wb.heap.size wb W → (fun W : World => W.cell? ⟨w.heap.size, 0, none⟩ = some (.int .i64 8) ∧ W.cell? ⟨w.heap.size, 1, none⟩ = some (.string ⟨#[]⟩) ∧ W.cell? ⟨w.heap.size, 2, none⟩ = some (.slice A ts.length c) ∧ W.cell? ⟨w.heap.size, 3, none⟩ = some (.slice B ks.length e)) W) := ⟨fun W h => ⟨(blk_cell (blk_below HN.out h) 0).trans rfl, (blk_cell (blk_below HN.out h) 1).trans rfl, (blk_cell (blk_below HN.out h) 2).trans rfl, (blk_cell (blk_below HN.out h) 3).trans rfl⟩⟩
  have HSUM := Aside0.mk hsum
  have HALL := Aside0.mk hall
  clear hwb hp hts hks hall hsum hm ih hk hT
  go_enter Tryd.func65, Tryd.ntmps65
  go_upto_region 1 with (fail)
  rw [HHW.out]
  have q0 := blk_cell HN.out 0
  have q1 := blk_cell HN.out 1
  have q2 := blk_cell HN.out 2
  have q3 := blk_cell HN.out 3
  simp at q0 q1 q2 q3
  go_upto_region 3 with (fail)
  clear q0 q1 q2 q3
  have hS : (fun W : World => W.cell? ⟨w.heap.size, 0, none⟩ = some (.int .i64 8) ∧ W.cell? ⟨w.heap.size, 1, none⟩ = some (.string ⟨#[]⟩) ∧ W.cell? ⟨w.heap.size, 2, none⟩ = some (.slice A ts.length c) ∧ W.cell? ⟨w.heap.size, 3, none⟩ = some (.slice B ks.length e)) wb.drew := HS.out _ (below_drew (Below.refl wb.heap.size wb))
  refine wp_region_held (S := (fun W : World => W.cell? ⟨w.heap.size, 0, none⟩ = some (.int .i64 8) ∧ W.cell? ⟨w.heap.size, 1, none⟩ = some (.string ⟨#[]⟩) ∧ W.cell? ⟨w.heap.size, 2, none⟩ = some (.slice A ts.length c) ∧ W.cell? ⟨w.heap.size, 3, none⟩ = some (.slice B ks.length e))) (by kernel_rfl) ?_
  change wpAnyH _ _ _ _ _ _ _ _ wb.drew
  first | refine tkU 0 hS ?_ | (refine tkV 0 (v := ?_) hS ?_ ?_; rotate_left 1; · (intro w0 hSw; (try dsimp only at hSw); go_split_ands; go_simp; try with_reducible rfl)) | fail
  try simp only [Act.put, pL]
  first | refine tkU 1 hS ?_ | (refine tkV 1 (v := ?_) hS ?_ ?_; rotate_left 1; · (intro w0 hSw; (try dsimp only at hSw); go_split_ands; go_simp; try with_reducible rfl)) | fail
  try simp only [Act.put, pL]
  first | refine tkU 2 hS ?_ | (refine tkV 2 (v := ?_) hS ?_ ?_; rotate_left 1; · (intro w0 hSw; (try dsimp only at hSw); go_split_ands; go_simp; try with_reducible rfl)) | fail
  try simp only [Act.put, pL]
  first | refine tkU 3 hS ?_ | (refine tkV 3 (v := ?_) hS ?_ ?_; rotate_left 1; · (intro w0 hSw; (try dsimp only at hSw); go_split_ands; go_simp; try with_reducible rfl)) | fail
  try simp only [Act.put, pL]
  first | refine tkU 4 hS ?_ | (refine tkV 4 (v := ?_) hS ?_ ?_; rotate_left 1; · (intro w0 hSw; (try dsimp only at hSw); go_split_ands; go_simp; try with_reducible rfl)) | fail
  try simp only [Act.put, pL]
  first | refine tkU 5 hS ?_ | (refine tkV 5 (v := ?_) hS ?_ ?_; rotate_left 1; · (intro w0 hSw; (try dsimp only at hSw); go_split_ands; go_simp; try with_reducible rfl)) | fail
  try simp only [Act.put, pL]
  first | refine tkU 6 hS ?_ | (refine tkV 6 (v := ?_) hS ?_ ?_; rotate_left 1; · (intro w0 hSw; (try dsimp only at hSw); go_split_ands; go_simp; try with_reducible rfl)) | fail
  try simp only [Act.put, pL]
  first | refine tkU 7 hS ?_ | (refine tkV 7 (v := ?_) hS ?_ ?_; rotate_left 1; · (intro w0 hSw; (try dsimp only at hSw); go_split_ands; go_simp; try with_reducible rfl)) | fail
  try simp only [Act.put, pL]
  refine wpAnyH_ready (rs := [8]) (by kernel_rfl) (by simp) ?_
  refine AllReadyH.cons rfl (fun K hK => ?_) AllReadyH.nil
  go_simp
  refine (CK.out _).mono ?_
  rintro e w1 ⟨rfl, rfl⟩
  refine hK.out _ _ hS (fun _ => ?_)
  clear hK K
  try simp only [Act.put, pL]
  first | refine tkU 9 hS ?_ | (refine tkV 9 (v := ?_) hS ?_ ?_; rotate_left 1; · (intro w0 hSw; (try dsimp only at hSw); go_split_ands; go_simp; try with_reducible rfl)) | fail
  try simp only [Act.put, pL]
  first | refine tkU 10 hS ?_ | (refine tkV 10 (v := ?_) hS ?_ ?_; rotate_left 1; · (intro w0 hSw; (try dsimp only at hSw); go_split_ands; go_simp; try with_reducible rfl)) | fail
  try simp only [Act.put, pL]
  first | refine tkU 11 hS ?_ | (refine tkV 11 (v := ?_) hS ?_ ?_; rotate_left 1; · (intro w0 hSw; (try dsimp only at hSw); go_split_ands; go_simp; try with_reducible rfl)) | fail
  try simp only [Act.put, pL]
  first | refine tkU 12 hS ?_ | (refine tkV 12 (v := ?_) hS ?_ ?_; rotate_left 1; · (intro w0 hSw; (try dsimp only at hSw); go_split_ands; go_simp; try with_reducible rfl)) | fail
  try simp only [Act.put, pL]
  first | refine tkU 13 hS ?_ | (refine tkV 13 (v := ?_) hS ?_ ?_; rotate_left 1; · (intro w0 hSw; (try dsimp only at hSw); go_split_ands; go_simp; try with_reducible rfl)) | fail
  try simp only [Act.put, pL]
  first | refine tkU 14 hS ?_ | (refine tkV 14 (v := ?_) hS ?_ ?_; rotate_left 1; · (intro w0 hSw; (try dsimp only at hSw); go_split_ands; go_simp; try with_reducible rfl)) | fail
  try simp only [Act.put, pL]
  first | refine tkU 15 hS ?_ | (refine tkV 15 (v := ?_) hS ?_ ?_; rotate_left 1; · (intro w0 hSw; (try dsimp only at hSw); go_split_ands; go_simp; try with_reducible rfl)) | fail
  try simp only [Act.put, pL]
  first | refine tkU 16 hS ?_ | (refine tkV 16 (v := ?_) hS ?_ ?_; rotate_left 1; · (intro w0 hSw; (try dsimp only at hSw); go_split_ands; go_simp; try with_reducible rfl)) | fail
  try simp only [Act.put, pL]
  first | refine tkU 17 hS ?_ | (refine tkV 17 (v := ?_) hS ?_ ?_; rotate_left 1; · (intro w0 hSw; (try dsimp only at hSw); go_split_ands; go_simp; try with_reducible rfl)) | fail
  try simp only [Act.put, pL]
  first | refine tkU 18 hS ?_ | (refine tkV 18 (v := ?_) hS ?_ ?_; rotate_left 1; · (intro w0 hSw; (try dsimp only at hSw); go_split_ands; go_simp; try with_reducible rfl)) | fail
  try simp only [Act.put, pL]
  first | refine tkU 19 hS ?_ | (refine tkV 19 (v := ?_) hS ?_ ?_; rotate_left 1; · (intro w0 hSw; (try dsimp only at hSw); go_split_ands; go_simp; try with_reducible rfl)) | fail
  try simp only [Act.put, pL]
  first | refine tkU 20 hS ?_ | (refine tkV 20 (v := ?_) hS ?_ ?_; rotate_left 1; · (intro w0 hSw; (try dsimp only at hSw); go_split_ands; go_simp; try with_reducible rfl)) | fail
  try simp only [Act.put, pL]
  first | refine tkU 21 hS ?_ | (refine tkV 21 (v := ?_) hS ?_ ?_; rotate_left 1; · (intro w0 hSw; (try dsimp only at hSw); go_split_ands; go_simp; try with_reducible rfl)) | fail
  try simp only [Act.put, pL]
  first | refine tkU 22 hS ?_ | (refine tkV 22 (v := ?_) hS ?_ ?_; rotate_left 1; · (intro w0 hSw; (try dsimp only at hSw); go_split_ands; go_simp; try with_reducible rfl)) | fail
  try simp only [Act.put, pL]
  first | refine tkU 23 hS ?_ | (refine tkV 23 (v := ?_) hS ?_ ?_; rotate_left 1; · (intro w0 hSw; (try dsimp only at hSw); go_split_ands; go_simp; try with_reducible rfl)) | fail
  try simp only [Act.put, pL]
  first | refine tkU 24 hS ?_ | (refine tkV 24 (v := ?_) hS ?_ ?_; rotate_left 1; · (intro w0 hSw; (try dsimp only at hSw); go_split_ands; go_simp; try with_reducible rfl)) | fail
  try simp only [Act.put, pL]
  first | refine tkU 25 hS ?_ | (refine tkV 25 (v := ?_) hS ?_ ?_; rotate_left 1; · (intro w0 hSw; (try dsimp only at hSw); go_split_ands; go_simp; try with_reducible rfl)) | fail
  try simp only [Act.put, pL]
  first | refine tkU 26 hS ?_ | (refine tkV 26 (v := ?_) hS ?_ ?_; rotate_left 1; · (intro w0 hSw; (try dsimp only at hSw); go_split_ands; go_simp; try with_reducible rfl)) | fail
  try simp only [Act.put, pL]
  first | refine tkU 27 hS ?_ | (refine tkV 27 (v := ?_) hS ?_ ?_; rotate_left 1; · (intro w0 hSw; (try dsimp only at hSw); go_split_ands; go_simp; try with_reducible rfl)) | fail
  try simp only [Act.put, pL]
  first | refine tkU 28 hS ?_ | (refine tkV 28 (v := ?_) hS ?_ ?_; rotate_left 1; · (intro w0 hSw; (try dsimp only at hSw); go_split_ands; go_simp; try with_reducible rfl)) | fail
  try simp only [Act.put, pL]
  first | refine tkU 29 hS ?_ | (refine tkV 29 (v := ?_) hS ?_ ?_; rotate_left 1; · (intro w0 hSw; (try dsimp only at hSw); go_split_ands; go_simp; try with_reducible rfl)) | fail
  try simp only [Act.put, pL]
  first | refine tkU 30 hS ?_ | (refine tkV 30 (v := ?_) hS ?_ ?_; rotate_left 1; · (intro w0 hSw; (try dsimp only at hSw); go_split_ands; go_simp; try with_reducible rfl)) | fail
  try simp only [Act.put, pL]
  first | refine tkU 31 hS ?_ | (refine tkV 31 (v := ?_) hS ?_ ?_; rotate_left 1; · (intro w0 hSw; (try dsimp only at hSw); go_split_ands; go_simp; try with_reducible rfl)) | fail
  try simp only [Act.put, pL]
  first | refine tkU 32 hS ?_ | (refine tkV 32 (v := ?_) hS ?_ ?_; rotate_left 1; · (intro w0 hSw; (try dsimp only at hSw); go_split_ands; go_simp; try with_reducible rfl)) | fail
  try simp only [Act.put, pL]
  first | refine tkU 33 hS ?_ | (refine tkV 33 (v := ?_) hS ?_ ?_; rotate_left 1; · (intro w0 hSw; (try dsimp only at hSw); go_split_ands; go_simp; try with_reducible rfl)) | fail
  try simp only [Act.put, pL]
  first | refine tkU 34 hS ?_ | (refine tkV 34 (v := ?_) hS ?_ ?_; rotate_left 1; · (intro w0 hSw; (try dsimp only at hSw); go_split_ands; go_simp; try with_reducible rfl)) | fail
  try simp only [Act.put, pL]
  first | refine tkU 35 hS ?_ | (refine tkV 35 (v := ?_) hS ?_ ?_; rotate_left 1; · (intro w0 hSw; (try dsimp only at hSw); go_split_ands; go_simp; try with_reducible rfl)) | fail
  try simp only [Act.put, pL]
  first | refine tkU 36 hS ?_ | (refine tkV 36 (v := ?_) hS ?_ ?_; rotate_left 1; · (intro w0 hSw; (try dsimp only at hSw); go_split_ands; go_simp; try with_reducible rfl)) | fail
  try simp only [Act.put, pL]
  first | refine tkU 37 hS ?_ | (refine tkV 37 (v := ?_) hS ?_ ?_; rotate_left 1; · (intro w0 hSw; (try dsimp only at hSw); go_split_ands; go_simp; try with_reducible rfl)) | fail
  try simp only [Act.put, pL]
  refine wpAnyH_ready (rs := [38]) (by kernel_rfl) (by simp) ?_
  refine AllReadyH.cons rfl (fun K hK => ?_) AllReadyH.nil
  go_simp
  refine (CC.out _ (below_drew (Below.refl wb.heap.size wb))).mono ?_
  rintro e w2 ⟨rfl, hb⟩
  have HB2 := Aside0.mk (below_then (below_drew (Below.refl wb.heap.size wb)) (Nat.le_refl _) hb)
  clear hb hS
  have hS : (fun W : World => W.cell? ⟨w.heap.size, 0, none⟩ = some (.int .i64 8) ∧ W.cell? ⟨w.heap.size, 1, none⟩ = some (.string ⟨#[]⟩) ∧ W.cell? ⟨w.heap.size, 2, none⟩ = some (.slice A ts.length c) ∧ W.cell? ⟨w.heap.size, 3, none⟩ = some (.slice B ks.length e)) w2 := HS.out _ HB2.out
  refine hK.out _ _ hS (fun _ => ?_)
  clear hK K
  try simp only [Act.put, pL]
  first | refine tkU 39 hS ?_ | (refine tkV 39 (v := ?_) hS ?_ ?_; rotate_left 1; · (intro w0 hSw; (try dsimp only at hSw); go_split_ands; go_simp; try with_reducible rfl)) | fail
  try simp only [Act.put, pL]
  refine wpAnyH_done (by kernel_rfl) ?_ _
  obtain ⟨q0, q1, q2, q3⟩ := hS
  have HBw : Aside0 (Below w.heap.size w w2) := ⟨HB.out.trans (HB2.out.mono HB.out.size)⟩
  have HP0 : Aside0 (pre (d + 1) ks 0 = 0) := ⟨rfl⟩
  go_wp2_with fail
  go_loopw [7, 69] (fun x y wr => ∃ i : Nat, i ≤ ks.length ∧ y = .int .i64 i ∧ x = .int .i64 ((1 + pre (d + 1) ks i : Nat) : Int) ∧ Aside0 (Below wb.heap.size wb wr)) (fun _ y _ => ks.length - (intOf y).toNat)
  case atStart => exact ⟨0, by omega, rfl, by rw [HP0.out]; rfl, HB2⟩
  case round =>
    clear q0 q1 q2 q3 HB2 HBw
    obtain ⟨wv, rfl⟩ : ∃ x, x = wr := ⟨wr, rfl⟩
    obtain ⟨i, hi, rfl, rfl, HBv⟩ := hrel
    have hpl := pre_le (d + 1) ks i
    rw [HSUM.out] at hpl
    obtain ⟨P, hP⟩ : ∃ P, pre (d + 1) ks i = P := ⟨_, rfl⟩
    rw [hP] at hpl ⊢
    have HP := Aside0.mk hP
    clear hP
    have hpc : ((1 + P : Nat) : Int) = 1 + (P : Int) := by omega
    rw [hpc]
    by_cases hin : i < ks.length
    · obtain ⟨q, hq⟩ : ∃ q, ks[i]? = some q := ⟨ks[i]'hin, List.getElem?_eq_getElem _⟩
      obtain ⟨kb, ko, cs', hB, -, hcell, hpq⟩ := KidsAt.get _ (KidsAt.move (w := wb) (w1 := wv) (fun g _ hg => HBv.out.block g hg) ks HKS.out) i q hq
      have hcq := HIH.out q (List.mem_of_getElem? hq)
      have hst := pre_step (d := d + 1) hq
      have hpl2 := pre_le (d + 1) ks (i + 1)
      rw [HSUM.out, hst, HP.out] at hpl2
      rw [HP.out] at hst
      obtain ⟨r, hr⟩ : ∃ r, cnt (d + 1) q = r := ⟨_, rfl⟩
      rw [hr] at hst hcq hpl2
      have HST := Aside0.mk hst
      obtain ⟨k', t', ts', ks'⟩ := q
      obtain ⟨A', cc', B', d', rfl, -⟩ := path_cells hpq
      subst hB
      have a0 := hcell 0 _ rfl
      have a1 := hcell 1 _ rfl
      have a2 := hcell 2 _ rfl
      have a3 := hcell 3 _ rfl
      simp at a0 a1 a2 a3
      have CC : Aside0 (∀ W, Below wv.heap.size wv W → Calls Tryd.prog 65 #[.agg #[.int .i64 k', .string t', .slice A' ts'.length cc', .slice B' ks'.length d'], .int .i64 ((d : Int) + 1)] W fun e w' => e = .returned (.int .i64 (r : Int)) ∧ Below W.heap.size W w') := ⟨fun W hW => by
        have := hcq W ok k' t' A' ts'.length cc' B' ks'.length d' (hpq.below hW) ((HTb.out.below HBv.out).below hW)
        rwa [show (((d + 1 : Nat)) : Int) = (d : Int) + 1 by omega] at this⟩
      have g0 : (0 : Int) ≤ (i : Int) := by omega
      have g1 : (i : Int) < (ks.length : Int) := by omega
      clear hq hcell hpq hcq hst hr
      go_upto_region 9 with (fail)
      obtain ⟨wy, hwy, HY, HNy⟩ := boxP wv k' t' A' ts'.length cc' B' ks'.length d'
      rw [← hwy]
      have z0 := blk_cell HNy.out 0
      have z1 := blk_cell HNy.out 1
      have z2 := blk_cell HNy.out 2
      have z3 := blk_cell HNy.out 3
      simp at z0 z1 z2 z3
      clear hwy a0 a1 a2 a3
      go_wp2_with (go_at_call 65; (with_reducible refine (CC.out _ HY.out).mono ?_); rintro e w4 ⟨rfl, hb⟩; have HB4 := Aside0.mk (below_then (below_then HBv.out HBv.out.size HY.out) (Nat.le_trans HBv.out.size HY.out.size) hb); clear hb)
      go_roundw
      case rel => exact ⟨i + 1, by omega, by go_num, by rw [HST.out]; congr 1; first | omega | (push_cast; omega), HB4⟩
      case measure => simp [intOf]; omega
    · have hil : i = ks.length := by omega
      have HFIN : Aside0 (P = m) := ⟨by
        rw [← HP.out, hil]
        unfold pre
        rw [List.take_length]
        exact HSUM.out⟩
      go_wp2_with fail
      go_ret
      have hfin : 1 + (P : Int) = ((m + 1 : Nat) : Int) := by have := HFIN.out; omega
      refine ⟨?_, HB.out.trans (HBv.out.mono HB.out.size)⟩
      rw [← hfin]
      rfl
set_option maxRecDepth 100000 in
set_option maxHeartbeats 8000000 in
theorem count_go (k0 : Int) (ks : List Pth) (d m : Nat) (hd : d ≤ 5) (hk : (ks.length : Int) = kidsN k0) (hk1 : k0 ≠ 1) (hk8 : k0 ≠ 8) (hm : countL ks (d + 1) = some m) (hm2 : m ≤ 1000) (ih : ∀ q ∈ ks, CountC q (d + 1) (cnt (d + 1) q)) : CountC (.mk k0 ⟨#[]⟩ [] ks) d (m + 1) := by
  intro w ok k t9 A n9 c B m9 e hp hT
  obtain ⟨A1, c1, B1, e1, e0, hc1, hd1, hd2, hts, hks⟩ := path_cells hp
  simp only [List.cons.injEq, Value.int.injEq, Value.string.injEq, Value.slice.injEq, true_and, and_true, List.length_nil] at e0 hc1
  obtain ⟨rfl, rfl, ⟨rfl, rfl, rfl⟩, rfl, rfl, rfl⟩ := e0
  obtain ⟨wb, hwb, HB, HN⟩ := boxP w k ⟨#[]⟩ A 0 c B ks.length e
  have HHW : Aside0 (w.alloc (.cells #[.int .i64 k, .string ⟨#[]⟩, .slice A 0 c, .slice B ks.length e] 25) = wb) := ⟨hwb.symm⟩
  have HTb := Aside0.mk (hT.below HB.out)
  have hg : decide ((5 : Int) < (d : Int)) = false := by rw [decide_eq_false_iff_not]; omega
  obtain ⟨hall, hsum⟩ := countL_all ks (d + 1) m hm
  have HKS := Aside0.mk (KidsAt.move (w := w) (w1 := wb) (fun g _ hg => HB.out.block g hg) ks hks)
  have HTS : Aside0 (TsAt wb ok A []) := ⟨hts.move (fun g _ hg => HB.out.block g hg)⟩
  have HIH := Aside0.mk ih
  have hkl : ks.length ≤ 2 := by unfold kidsN at hk; repeat' split at hk <;> omega
  have CK : Aside0 (∀ W, Calls Tryd.prog 93 #[.int .i64 k] W fun e w' => e = .returned (.int .i64 (ks.length : Int)) ∧ w' = W) := ⟨fun W => by
    have := kids_any k W
    rwa [← hk] at this⟩
  have CC : Aside0 (∀ W, Below wb.heap.size wb W → Calls Tryd.prog 95 #[.slice A 0 c, .func (.func 94) #[] #[]] W fun e w' => e = .returned (.bool false) ∧ Below W.heap.size W w') := ⟨fun W hW => by
    have := contains_any A c [] ok W (HTS.out.move (fun g _ hg => hW.block g hg)) (fun t h => by cases h) (HTb.out.below hW)
    rwa [show (!([] : List ByteArray).all iriB) = false from rfl] at this⟩
  have n1 : (k == 1) = false := by rw [beq_eq_false_iff_ne]; exact hk1
  have n2 : (k == 8) = false := by rw [beq_eq_false_iff_ne]; exact hk8
  clear hk1 hk8
  have HS : Aside0 (∀ W, Below wb.heap.size wb W → (fun W : World => W.cell? ⟨w.heap.size, 0, none⟩ = some (.int .i64 k) ∧ W.cell? ⟨w.heap.size, 1, none⟩ = some (.string ⟨#[]⟩) ∧ W.cell? ⟨w.heap.size, 2, none⟩ = some (.slice A 0 c) ∧ W.cell? ⟨w.heap.size, 3, none⟩ = some (.slice B ks.length e)) W) := ⟨fun W h => ⟨(blk_cell (blk_below HN.out h) 0).trans rfl, (blk_cell (blk_below HN.out h) 1).trans rfl, (blk_cell (blk_below HN.out h) 2).trans rfl, (blk_cell (blk_below HN.out h) 3).trans rfl⟩⟩
  have HSUM := Aside0.mk hsum
  have HALL := Aside0.mk hall
  clear hwb hp hts hks hall hsum hm ih hk hT
  go_enter Tryd.func65, Tryd.ntmps65
  go_upto_region 1 with (fail)
  rw [HHW.out]
  have q0 := blk_cell HN.out 0
  have q1 := blk_cell HN.out 1
  have q2 := blk_cell HN.out 2
  have q3 := blk_cell HN.out 3
  simp at q0 q1 q2 q3
  go_upto_region 3 with (fail)
  clear q0 q1 q2 q3
  have hS : (fun W : World => W.cell? ⟨w.heap.size, 0, none⟩ = some (.int .i64 k) ∧ W.cell? ⟨w.heap.size, 1, none⟩ = some (.string ⟨#[]⟩) ∧ W.cell? ⟨w.heap.size, 2, none⟩ = some (.slice A 0 c) ∧ W.cell? ⟨w.heap.size, 3, none⟩ = some (.slice B ks.length e)) wb.drew := HS.out _ (below_drew (Below.refl wb.heap.size wb))
  refine wp_region_held (S := (fun W : World => W.cell? ⟨w.heap.size, 0, none⟩ = some (.int .i64 k) ∧ W.cell? ⟨w.heap.size, 1, none⟩ = some (.string ⟨#[]⟩) ∧ W.cell? ⟨w.heap.size, 2, none⟩ = some (.slice A 0 c) ∧ W.cell? ⟨w.heap.size, 3, none⟩ = some (.slice B ks.length e))) (by kernel_rfl) ?_
  change wpAnyH _ _ _ _ _ _ _ _ wb.drew
  first | refine tkU 0 hS ?_ | (refine tkV 0 (v := ?_) hS ?_ ?_; rotate_left 1; · (intro w0 hSw; (try dsimp only at hSw); go_split_ands; go_simp; try with_reducible rfl)) | fail
  try simp only [Act.put, pL]
  first | refine tkU 1 hS ?_ | (refine tkV 1 (v := ?_) hS ?_ ?_; rotate_left 1; · (intro w0 hSw; (try dsimp only at hSw); go_split_ands; go_simp; try with_reducible rfl)) | fail
  try simp only [Act.put, pL]
  first | refine tkU 2 hS ?_ | (refine tkV 2 (v := ?_) hS ?_ ?_; rotate_left 1; · (intro w0 hSw; (try dsimp only at hSw); go_split_ands; go_simp; try with_reducible rfl)) | fail
  try simp only [Act.put, pL]
  first | refine tkU 3 hS ?_ | (refine tkV 3 (v := ?_) hS ?_ ?_; rotate_left 1; · (intro w0 hSw; (try dsimp only at hSw); go_split_ands; go_simp; try with_reducible rfl)) | fail
  try simp only [Act.put, pL]
  first | refine tkU 4 hS ?_ | (refine tkV 4 (v := ?_) hS ?_ ?_; rotate_left 1; · (intro w0 hSw; (try dsimp only at hSw); go_split_ands; go_simp; try with_reducible rfl)) | fail
  try simp only [Act.put, pL]
  first | refine tkU 5 hS ?_ | (refine tkV 5 (v := ?_) hS ?_ ?_; rotate_left 1; · (intro w0 hSw; (try dsimp only at hSw); go_split_ands; go_simp; try with_reducible rfl)) | fail
  try simp only [Act.put, pL]
  first | refine tkU 6 hS ?_ | (refine tkV 6 (v := ?_) hS ?_ ?_; rotate_left 1; · (intro w0 hSw; (try dsimp only at hSw); go_split_ands; go_simp; try with_reducible rfl)) | fail
  try simp only [Act.put, pL]
  first | refine tkU 7 hS ?_ | (refine tkV 7 (v := ?_) hS ?_ ?_; rotate_left 1; · (intro w0 hSw; (try dsimp only at hSw); go_split_ands; go_simp; try with_reducible rfl)) | fail
  try simp only [Act.put, pL]
  refine wpAnyH_ready (rs := [8]) (by kernel_rfl) (by simp) ?_
  refine AllReadyH.cons rfl (fun K hK => ?_) AllReadyH.nil
  go_simp
  refine (CK.out _).mono ?_
  rintro e w1 ⟨rfl, rfl⟩
  refine hK.out _ _ hS (fun _ => ?_)
  clear hK K
  try simp only [Act.put, pL]
  first | refine tkU 9 hS ?_ | (refine tkV 9 (v := ?_) hS ?_ ?_; rotate_left 1; · (intro w0 hSw; (try dsimp only at hSw); go_split_ands; go_simp; try with_reducible rfl)) | fail
  try simp only [Act.put, pL]
  first | refine tkU 10 hS ?_ | (refine tkV 10 (v := ?_) hS ?_ ?_; rotate_left 1; · (intro w0 hSw; (try dsimp only at hSw); go_split_ands; go_simp; try with_reducible rfl)) | fail
  try simp only [Act.put, pL]
  first | refine tkU 11 hS ?_ | (refine tkV 11 (v := ?_) hS ?_ ?_; rotate_left 1; · (intro w0 hSw; (try dsimp only at hSw); go_split_ands; go_simp; try with_reducible rfl)) | fail
  try simp only [Act.put, pL]
  first | refine tkU 12 hS ?_ | (refine tkV 12 (v := ?_) hS ?_ ?_; rotate_left 1; · (intro w0 hSw; (try dsimp only at hSw); go_split_ands; go_simp; try with_reducible rfl)) | fail
  try simp only [Act.put, pL]
  first | refine tkU 13 hS ?_ | (refine tkV 13 (v := ?_) hS ?_ ?_; rotate_left 1; · (intro w0 hSw; (try dsimp only at hSw); go_split_ands; go_simp; try with_reducible rfl)) | fail
  try simp only [Act.put, pL]
  first | refine tkU 14 hS ?_ | (refine tkV 14 (v := ?_) hS ?_ ?_; rotate_left 1; · (intro w0 hSw; (try dsimp only at hSw); go_split_ands; go_simp; try with_reducible rfl)) | fail
  try simp only [Act.put, pL]
  first | refine tkU 15 hS ?_ | (refine tkV 15 (v := ?_) hS ?_ ?_; rotate_left 1; · (intro w0 hSw; (try dsimp only at hSw); go_split_ands; go_simp; try with_reducible rfl)) | fail
  try simp only [Act.put, pL]
  first | refine tkU 16 hS ?_ | (refine tkV 16 (v := ?_) hS ?_ ?_; rotate_left 1; · (intro w0 hSw; (try dsimp only at hSw); go_split_ands; go_simp; try with_reducible rfl)) | fail
  try simp only [Act.put, pL]
  first | refine tkU 17 hS ?_ | (refine tkV 17 (v := ?_) hS ?_ ?_; rotate_left 1; · (intro w0 hSw; (try dsimp only at hSw); go_split_ands; go_simp; try with_reducible rfl)) | fail
  try simp only [Act.put, pL]
  first | refine tkU 18 hS ?_ | (refine tkV 18 (v := ?_) hS ?_ ?_; rotate_left 1; · (intro w0 hSw; (try dsimp only at hSw); go_split_ands; go_simp; try with_reducible rfl)) | fail
  try simp only [Act.put, pL]
  first | refine tkU 19 hS ?_ | (refine tkV 19 (v := ?_) hS ?_ ?_; rotate_left 1; · (intro w0 hSw; (try dsimp only at hSw); go_split_ands; go_simp; try with_reducible rfl)) | fail
  try simp only [Act.put, pL]
  first | refine tkU 20 hS ?_ | (refine tkV 20 (v := ?_) hS ?_ ?_; rotate_left 1; · (intro w0 hSw; (try dsimp only at hSw); go_split_ands; go_simp; try with_reducible rfl)) | fail
  try simp only [Act.put, pL]
  first | refine tkU 21 hS ?_ | (refine tkV 21 (v := ?_) hS ?_ ?_; rotate_left 1; · (intro w0 hSw; (try dsimp only at hSw); go_split_ands; go_simp; try with_reducible rfl)) | fail
  try simp only [Act.put, pL]
  first | refine tkU 22 hS ?_ | (refine tkV 22 (v := ?_) hS ?_ ?_; rotate_left 1; · (intro w0 hSw; (try dsimp only at hSw); go_split_ands; go_simp; try with_reducible rfl)) | fail
  try simp only [Act.put, pL]
  first | refine tkU 23 hS ?_ | (refine tkV 23 (v := ?_) hS ?_ ?_; rotate_left 1; · (intro w0 hSw; (try dsimp only at hSw); go_split_ands; go_simp; try with_reducible rfl)) | fail
  try simp only [Act.put, pL]
  first | refine tkU 24 hS ?_ | (refine tkV 24 (v := ?_) hS ?_ ?_; rotate_left 1; · (intro w0 hSw; (try dsimp only at hSw); go_split_ands; go_simp; try with_reducible rfl)) | fail
  try simp only [Act.put, pL]
  first | refine tkU 25 hS ?_ | (refine tkV 25 (v := ?_) hS ?_ ?_; rotate_left 1; · (intro w0 hSw; (try dsimp only at hSw); go_split_ands; go_simp; try with_reducible rfl)) | fail
  try simp only [Act.put, pL]
  first | refine tkU 26 hS ?_ | (refine tkV 26 (v := ?_) hS ?_ ?_; rotate_left 1; · (intro w0 hSw; (try dsimp only at hSw); go_split_ands; go_simp; try with_reducible rfl)) | fail
  try simp only [Act.put, pL]
  first | refine tkU 27 hS ?_ | (refine tkV 27 (v := ?_) hS ?_ ?_; rotate_left 1; · (intro w0 hSw; (try dsimp only at hSw); go_split_ands; go_simp; try with_reducible rfl)) | fail
  try simp only [Act.put, pL]
  first | refine tkU 28 hS ?_ | (refine tkV 28 (v := ?_) hS ?_ ?_; rotate_left 1; · (intro w0 hSw; (try dsimp only at hSw); go_split_ands; go_simp; try with_reducible rfl)) | fail
  try simp only [Act.put, pL]
  first | refine tkU 29 hS ?_ | (refine tkV 29 (v := ?_) hS ?_ ?_; rotate_left 1; · (intro w0 hSw; (try dsimp only at hSw); go_split_ands; go_simp; try with_reducible rfl)) | fail
  try simp only [Act.put, pL]
  first | refine tkU 30 hS ?_ | (refine tkV 30 (v := ?_) hS ?_ ?_; rotate_left 1; · (intro w0 hSw; (try dsimp only at hSw); go_split_ands; go_simp; try with_reducible rfl)) | fail
  try simp only [Act.put, pL]
  first | refine tkU 31 hS ?_ | (refine tkV 31 (v := ?_) hS ?_ ?_; rotate_left 1; · (intro w0 hSw; (try dsimp only at hSw); go_split_ands; go_simp; try with_reducible rfl)) | fail
  try simp only [Act.put, pL]
  first | refine tkU 32 hS ?_ | (refine tkV 32 (v := ?_) hS ?_ ?_; rotate_left 1; · (intro w0 hSw; (try dsimp only at hSw); go_split_ands; go_simp; try with_reducible rfl)) | fail
  try simp only [Act.put, pL]
  first | refine tkU 33 hS ?_ | (refine tkV 33 (v := ?_) hS ?_ ?_; rotate_left 1; · (intro w0 hSw; (try dsimp only at hSw); go_split_ands; go_simp; try with_reducible rfl)) | fail
  try simp only [Act.put, pL]
  first | refine tkU 34 hS ?_ | (refine tkV 34 (v := ?_) hS ?_ ?_; rotate_left 1; · (intro w0 hSw; (try dsimp only at hSw); go_split_ands; go_simp; try with_reducible rfl)) | fail
  try simp only [Act.put, pL]
  first | refine tkU 35 hS ?_ | (refine tkV 35 (v := ?_) hS ?_ ?_; rotate_left 1; · (intro w0 hSw; (try dsimp only at hSw); go_split_ands; go_simp; try with_reducible rfl)) | fail
  try simp only [Act.put, pL]
  first | refine tkU 36 hS ?_ | (refine tkV 36 (v := ?_) hS ?_ ?_; rotate_left 1; · (intro w0 hSw; (try dsimp only at hSw); go_split_ands; go_simp; try with_reducible rfl)) | fail
  try simp only [Act.put, pL]
  first | refine tkU 37 hS ?_ | (refine tkV 37 (v := ?_) hS ?_ ?_; rotate_left 1; · (intro w0 hSw; (try dsimp only at hSw); go_split_ands; go_simp; try with_reducible rfl)) | fail
  try simp only [Act.put, pL]
  refine wpAnyH_ready (rs := [38]) (by kernel_rfl) (by simp) ?_
  refine AllReadyH.cons rfl (fun K hK => ?_) AllReadyH.nil
  go_simp
  refine (CC.out _ (below_drew (Below.refl wb.heap.size wb))).mono ?_
  rintro e w2 ⟨rfl, hb⟩
  have HB2 := Aside0.mk (below_then (below_drew (Below.refl wb.heap.size wb)) (Nat.le_refl _) hb)
  clear hb hS
  have hS : (fun W : World => W.cell? ⟨w.heap.size, 0, none⟩ = some (.int .i64 k) ∧ W.cell? ⟨w.heap.size, 1, none⟩ = some (.string ⟨#[]⟩) ∧ W.cell? ⟨w.heap.size, 2, none⟩ = some (.slice A 0 c) ∧ W.cell? ⟨w.heap.size, 3, none⟩ = some (.slice B ks.length e)) w2 := HS.out _ HB2.out
  refine hK.out _ _ hS (fun _ => ?_)
  clear hK K
  try simp only [Act.put, pL]
  first | refine tkU 39 hS ?_ | (refine tkV 39 (v := ?_) hS ?_ ?_; rotate_left 1; · (intro w0 hSw; (try dsimp only at hSw); go_split_ands; go_simp; try with_reducible rfl)) | fail
  try simp only [Act.put, pL]
  refine wpAnyH_done (by kernel_rfl) ?_ _
  obtain ⟨q0, q1, q2, q3⟩ := hS
  have HBw : Aside0 (Below w.heap.size w w2) := ⟨HB.out.trans (HB2.out.mono HB.out.size)⟩
  have HP0 : Aside0 (pre (d + 1) ks 0 = 0) := ⟨rfl⟩
  go_wp2_with fail
  go_loopw [7, 69] (fun x y wr => ∃ i : Nat, i ≤ ks.length ∧ y = .int .i64 i ∧ x = .int .i64 ((1 + pre (d + 1) ks i : Nat) : Int) ∧ Aside0 (Below wb.heap.size wb wr)) (fun _ y _ => ks.length - (intOf y).toNat)
  case atStart => exact ⟨0, by omega, rfl, by rw [HP0.out]; rfl, HB2⟩
  case round =>
    clear q0 q1 q2 q3 HB2 HBw
    obtain ⟨wv, rfl⟩ : ∃ x, x = wr := ⟨wr, rfl⟩
    obtain ⟨i, hi, rfl, rfl, HBv⟩ := hrel
    have hpl := pre_le (d + 1) ks i
    rw [HSUM.out] at hpl
    obtain ⟨P, hP⟩ : ∃ P, pre (d + 1) ks i = P := ⟨_, rfl⟩
    rw [hP] at hpl ⊢
    have HP := Aside0.mk hP
    clear hP
    have hpc : ((1 + P : Nat) : Int) = 1 + (P : Int) := by omega
    rw [hpc]
    by_cases hin : i < ks.length
    · obtain ⟨q, hq⟩ : ∃ q, ks[i]? = some q := ⟨ks[i]'hin, List.getElem?_eq_getElem _⟩
      obtain ⟨kb, ko, cs', hB, -, hcell, hpq⟩ := KidsAt.get _ (KidsAt.move (w := wb) (w1 := wv) (fun g _ hg => HBv.out.block g hg) ks HKS.out) i q hq
      have hcq := HIH.out q (List.mem_of_getElem? hq)
      have hst := pre_step (d := d + 1) hq
      have hpl2 := pre_le (d + 1) ks (i + 1)
      rw [HSUM.out, hst, HP.out] at hpl2
      rw [HP.out] at hst
      obtain ⟨r, hr⟩ : ∃ r, cnt (d + 1) q = r := ⟨_, rfl⟩
      rw [hr] at hst hcq hpl2
      have HST := Aside0.mk hst
      obtain ⟨k', t', ts', ks'⟩ := q
      obtain ⟨A', cc', B', d', rfl, -⟩ := path_cells hpq
      subst hB
      have a0 := hcell 0 _ rfl
      have a1 := hcell 1 _ rfl
      have a2 := hcell 2 _ rfl
      have a3 := hcell 3 _ rfl
      simp at a0 a1 a2 a3
      have CC : Aside0 (∀ W, Below wv.heap.size wv W → Calls Tryd.prog 65 #[.agg #[.int .i64 k', .string t', .slice A' ts'.length cc', .slice B' ks'.length d'], .int .i64 ((d : Int) + 1)] W fun e w' => e = .returned (.int .i64 (r : Int)) ∧ Below W.heap.size W w') := ⟨fun W hW => by
        have := hcq W ok k' t' A' ts'.length cc' B' ks'.length d' (hpq.below hW) ((HTb.out.below HBv.out).below hW)
        rwa [show (((d + 1 : Nat)) : Int) = (d : Int) + 1 by omega] at this⟩
      have g0 : (0 : Int) ≤ (i : Int) := by omega
      have g1 : (i : Int) < (ks.length : Int) := by omega
      clear hq hcell hpq hcq hst hr
      go_upto_region 9 with (fail)
      obtain ⟨wy, hwy, HY, HNy⟩ := boxP wv k' t' A' ts'.length cc' B' ks'.length d'
      rw [← hwy]
      have z0 := blk_cell HNy.out 0
      have z1 := blk_cell HNy.out 1
      have z2 := blk_cell HNy.out 2
      have z3 := blk_cell HNy.out 3
      simp at z0 z1 z2 z3
      clear hwy a0 a1 a2 a3
      go_wp2_with (go_at_call 65; (with_reducible refine (CC.out _ HY.out).mono ?_); rintro e w4 ⟨rfl, hb⟩; have HB4 := Aside0.mk (below_then (below_then HBv.out HBv.out.size HY.out) (Nat.le_trans HBv.out.size HY.out.size) hb); clear hb)
      go_roundw
      case rel => exact ⟨i + 1, by omega, by go_num, by rw [HST.out]; congr 1; first | omega | (push_cast; omega), HB4⟩
      case measure => simp [intOf]; omega
    · have hil : i = ks.length := by omega
      have HFIN : Aside0 (P = m) := ⟨by
        rw [← HP.out, hil]
        unfold pre
        rw [List.take_length]
        exact HSUM.out⟩
      go_wp2_with fail
      go_ret
      have hfin : 1 + (P : Int) = ((m + 1 : Nat) : Int) := by have := HFIN.out; omega
      refine ⟨?_, HB.out.trans (HBv.out.mono HB.out.size)⟩
      rw [← hfin]
      rfl
theorem mem_le_sum : ∀ {l : List Nat} {x : Nat}, x ∈ l → x ≤ l.sum
  | [], x, h => by cases h
  | y :: l, x, h => by
    rw [List.sum_cons]
    rcases List.mem_cons.1 h with rfl | h
    · omega
    · have := mem_le_sum h; omega
theorem count_yes : ∀ (p : Pth) (d n : Nat), countP p d = some n → n ≤ 1000 → CountC p d n := by
  intro p
  induction p using Pth.ind with
  | h k t ts ks ih =>
  intro d n h hn
  obtain ⟨hh, m, hm, rfl⟩ := count_mk h
  obtain ⟨h1, h2, h3, h4⟩ := here_kind hh
  obtain ⟨hall, hsum⟩ := countL_all ks (d + 1) m hm
  have ih2 : ∀ q ∈ ks, CountC q (d + 1) (cnt (d + 1) q) := fun q hq => ih q hq _ _ (hall q hq) (by
    have : cnt (d + 1) q ≤ (ks.map (cnt (d + 1))).sum := mem_le_sum (List.mem_map_of_mem hq)
    omega)
  by_cases k1 : k = 1
  · subst k1
    rw [if_pos rfl] at h3
    rw [if_neg (by decide)] at h4
    obtain rfl := List.eq_nil_of_length_eq_zero h4
    exact count_g1 t ks d m h1 h2 h3 hm (by omega) ih2
  · by_cases k8 : k = 8
    · subst k8
      rw [if_pos rfl] at h4
      rw [if_neg (by decide)] at h3
      obtain rfl := empty_list h3
      exact count_g8 ts ks d m h1 h2 h4.1 h4.2.1 h4.2.2 hm (by omega) ih2
    · rw [if_neg k1] at h3
      rw [if_neg k8] at h4
      obtain rfl := empty_list h3
      obtain rfl := List.eq_nil_of_length_eq_zero h4
      exact count_go k ks d m h1 h2 k1 k8 hm (by omega) ih2
theorem count_pos {p : Pth} {d n : Nat} (h : countP p d = some n) : 1 ≤ n := by
  obtain ⟨k, t, ts, ks⟩ := p
  obtain ⟨_, m, _, rfl⟩ := count_mk h
  omega
set_option maxRecDepth 100000 in
set_option maxHeartbeats 8000000 in
theorem isPath_yes (p : Pth) (c0 : Nat) (hc : countP p 0 = some c0) (h30 : c0 ≤ 30) (w : World) (ok : Nat → Prop) (k : Int) (t : ByteArray) (A : Option Addr) (n c : Nat) (B : Option Addr) (m e : Nat) (hp : PathAt w ok p [.int .i64 k, .string t, .slice A n c, .slice B m e]) (hT : Tabs w) :
    Calls Tryd.prog 32 #[.agg #[.int .i64 k, .string t, .slice A n c, .slice B m e]] w fun e w' => e = .returned (.bool true) ∧ Below w.heap.size w w' := by
  obtain ⟨wb, hwb, HB, HN⟩ := boxP w k t A n c B m e
  have HHW : Aside0 (w.alloc (.cells #[.int .i64 k, .string t, .slice A n c, .slice B m e] 25) = wb) := ⟨hwb.symm⟩
  have CC : Aside0 (Calls Tryd.prog 65 #[.agg #[.int .i64 k, .string t, .slice A n c, .slice B m e], .int .i64 0] wb fun e w' => e = .returned (.int .i64 (c0 : Int)) ∧ Below wb.heap.size wb w') := ⟨count_yes p 0 c0 hc (by omega) wb ok k t A n c B m e (hp.below HB.out) (hT.below HB.out)⟩
  have h1 := count_pos hc
  have g1 : (0 : Int) < (c0 : Int) := by omega
  have g2 : (c0 : Int) ≤ 30 := by omega
  clear hwb hp hT hc
  go_enter Tryd.func32, Tryd.ntmps32
  go_upto_region 1 with (fail)
  rw [HHW.out]
  have q0 := blk_cell HN.out 0
  have q1 := blk_cell HN.out 1
  have q2 := blk_cell HN.out 2
  have q3 := blk_cell HN.out 3
  simp at q0 q1 q2 q3
  go_wp2_with (go_at_call 65; (with_reducible refine CC.out.mono ?_); rintro e w1 ⟨rfl, hb⟩; have HB1 := Aside0.mk (below_then HB.out HB.out.size hb); clear hb)
  go_ret
  exact ⟨rfl, HB1.out⟩
end Go.Proofs.YtbaegfjoionojaaDoor.Qy
