/- The walk of query.Show. -/
import Derived.Test.YtbaegfjoionojaaDoorQyG
set_option linter.unusedSimpArgs false
set_option linter.unusedVariables false
namespace Go.Proofs.YtbaegfjoionojaaDoor.Qy
open Go Go.RowKit Go.Proofs.YtbaegfjoionojaaDoor.Tm Go.Proofs.YtbaegfjoionojaaDoorW.PrintWords

theorem join_len : ∀ l : List (List UInt8), (∀ x ∈ l, x.length ≤ 60) → (Lib.join l [62, 124, 60]).length ≤ 63 * l.length
  | [], _ => by simp [Lib.join]
  | [x], h => by have := h x (by simp); simp [Lib.join]; omega
  | x :: y :: l, h => by
    have h1 := h x (by simp)
    have h2 := join_len (y :: l) (fun z hz => h z (by simp at hz ⊢; right; exact hz))
    have e : Lib.join (x :: y :: l) [62, 124, 60] = x ++ ([62, 124, 60] ++ Lib.join (y :: l) [62, 124, 60]) := by simp [Lib.join, List.intercalate]
    rw [e]
    simp only [List.length_append, List.length_cons, List.length_nil] at h2 ⊢
    omega
theorem iri_size {t : ByteArray} (h : iriB t = true) : t.size ≤ 60 := by
  unfold iriB at h; simp at h; omega
theorem here_kind {k : Int} {t : ByteArray} {ts : List ByteArray} {n d : Nat} (h : hereB k t ts n d = true) : d ≤ 5 ∧ (n : Int) = kidsN k ∧ (if k = 1 then iriB t = true else t.size = 0) ∧ (if k = 8 then 1 ≤ ts.length ∧ ts.length ≤ 4 ∧ ts.all iriB = true else ts.length = 0) := by
  unfold hereB at h
  simp only [Bool.and_eq_true, decide_eq_true_eq] at h
  refine ⟨h.1.1.1, h.1.1.2, ?_, ?_⟩
  · have := h.1.2
    split at this
    · rw [if_pos (by assumption)]; exact this
    · rw [if_neg (by assumption)]; simpa using this
  · have := h.2
    split at this
    · rw [if_pos (by assumption)]
      simp only [Bool.and_eq_true, decide_eq_true_eq] at this
      exact ⟨this.1.1, this.1.2, this.2⟩
    · rw [if_neg (by assumption)]; simpa using this
theorem count_mk {k : Int} {t : ByteArray} {ts : List ByteArray} {ks : List Pth} {d n : Nat} (h : countP (.mk k t ts ks) d = some n) : hereB k t ts ks.length d = true ∧ ∃ m, countL ks (d + 1) = some m ∧ n = m + 1 := by
  unfold countP at h
  split at h
  · rename_i hh
    simp only [Option.map_eq_some_iff] at h
    obtain ⟨m, h1, h2⟩ := h
    exact ⟨hh, m, h1, h2.symm⟩
  · cases h
theorem count_one {p : Pth} {d m : Nat} (h : countL [p] d = some m) : countP p d = some m := by
  unfold countL at h
  split at h
  · cases h
  · rename_i n hn
    simp [countL] at h
    rw [hn, h]
theorem count_two {p q : Pth} {d m : Nat} (h : countL [p, q] d = some m) : ∃ a b, countP p d = some a ∧ countP q d = some b ∧ m = a + b := by
  unfold countL at h
  split at h
  · cases h
  · rename_i n hn
    simp only [Option.map_eq_some_iff] at h
    obtain ⟨b, h1, h2⟩ := h
    exact ⟨n, b, hn, count_one h1, h2.symm⟩
theorem kinds_of {k : Int} {n : Nat} (h : (n : Int) = kidsN k) : (k = 1 ∧ n = 0) ∨ (k = 8 ∧ n = 0) ∨ (k = 2 ∧ n = 1) ∨ (k = 5 ∧ n = 1) ∨ (k = 6 ∧ n = 1) ∨ (k = 7 ∧ n = 1) ∨ (k = 3 ∧ n = 2) ∨ (k = 4 ∧ n = 2) := by
  unfold kidsN at h
  repeat' split at h
  all_goals omega
theorem list1 {α : Type} {l : List α} (h : l.length = 1) : ∃ a, l = [a] := by
  rcases l with _ | ⟨a, _ | ⟨b, l⟩⟩
  · cases h
  · exact ⟨a, rfl⟩
  · simp at h
theorem list2 {α : Type} {l : List α} (h : l.length = 2) : ∃ a b, l = [a, b] := by
  rcases l with _ | ⟨a, _ | ⟨b, _ | ⟨c, l⟩⟩⟩
  · cases h
  · cases h
  · exact ⟨a, b, rfl⟩
  · simp at h
theorem inB_len (p : Pth) (x : List UInt8) : (inB p x).length ≤ x.length + 2 := by
  unfold inB
  split
  · omega
  · simp
/-- A shown path's length. -/
theorem show_len : ∀ (p : Pth) (d n : Nat), countP p d = some n → (showP p).length ≤ 300 * n := by
  intro p
  induction p using Pth.ind with
  | h k t ts ks ih =>
  intro d n h
  obtain ⟨hh, m, hm, rfl⟩ := count_mk h
  obtain ⟨h1, h2, h3, h4⟩ := here_kind hh
  unfold showP glueL
  rcases kinds_of h2 with ⟨rfl, hk⟩ | ⟨rfl, hk⟩ | ⟨rfl, hk⟩ | ⟨rfl, hk⟩ | ⟨rfl, hk⟩ | ⟨rfl, hk⟩ | ⟨rfl, hk⟩ | ⟨rfl, hk⟩
  · rw [if_pos rfl] at h3
    have := iri_size h3
    have := size_list t
    simp; omega
  · rw [if_pos rfl] at h4
    have h5 := join_len (ts.map (·.data.toList)) (fun x hx => by
      obtain ⟨y, hy, rfl⟩ := List.mem_map.1 hx
      have := iri_size (List.all_eq_true.1 h4.2.2 y hy)
      have := size_list y
      omega)
    rw [List.length_map] at h5
    simp; omega
  all_goals first
    | (obtain ⟨q, rfl⟩ := list1 hk
       have hq := ih q (by simp) _ _ (count_one hm)
       have := inB_len q (showP q)
       simp [showsL]; omega)
    | (obtain ⟨q, q2, rfl⟩ := list2 hk
       obtain ⟨a, b, ha, hb, rfl⟩ := count_two hm
       have hq := ih q (by simp) _ _ ha
       have hq2 := ih q2 (by simp) _ _ hb
       have := inB_len q (showP q)
       have := inB_len q2 (showP q2)
       simp [showsL]; omega)
theorem ret_str {a b : ByteArray} (h : a = b) : Ending.returned (.string a) = .returned (.string b) := by rw [h]
theorem path_cells {w : World} {ok : Nat → Prop} {k : Int} {t : ByteArray} {ts : List ByteArray} {ks : List Pth} {cs : List Value} (h : PathAt w ok (.mk k t ts ks) cs) : ∃ (A : Option Addr) (c : Nat) (B : Option Addr) (d : Nat), cs = [.int .i64 k, .string t, .slice A ts.length c, .slice B ks.length d] ∧ ts.length ≤ c ∧ ks.length ≤ d ∧ ks.length ≤ 9223372036854775807 ∧ TsAt w ok A ts ∧ KidsAt w ok B 0 ks := by
  unfold PathAt at h; exact h
/-- A shown path. -/
def showB (p : Pth) : ByteArray := ⟨(showP p).toArray⟩
def withinB (p : Pth) : ByteArray := ⟨(inB p (showP p)).toArray⟩
def ShowC (fn : Nat) (p : Pth) (r : ByteArray) : Prop := ∀ (w : World) (ok : Nat → Prop) (k : Int) (t : ByteArray) (A : Option Addr) (n c : Nat) (B : Option Addr) (m d : Nat), PathAt w ok p [.int .i64 k, .string t, .slice A n c, .slice B m d] → Calls Tryd.prog fn #[.agg #[.int .i64 k, .string t, .slice A n c, .slice B m d]] w fun e w' => e = .returned (.string r) ∧ Below w.heap.size w w'
theorem boxP (w : World) (k : Int) (t : ByteArray) (A : Option Addr) (n c : Nat) (B : Option Addr) (m d : Nat) : ∃ wb, wb = w.alloc (.cells #[.int .i64 k, .string t, .slice A n c, .slice B m d] 25) ∧ Aside0 (Below w.heap.size w wb) ∧ Aside0 (wb.heap[w.heap.size]? = some (.cells #[.int .i64 k, .string t, .slice A n c, .slice B m d] 25 (0, 0))) := ⟨_, rfl, ⟨below_alloc (Below.refl _ _) _⟩, ⟨heap_alloc_new _ _⟩⟩
theorem ba_size (l : List UInt8) : (⟨l.toArray⟩ : ByteArray).size = l.length := by simp [ByteArray.size]
theorem pth_k (k : Int) (t : ByteArray) (ts : List ByteArray) (ks : List Pth) : (Pth.mk k t ts ks).k = k := rfl
set_option maxRecDepth 100000 in
set_option maxHeartbeats 8000000 in
theorem br_any (q : Pth) (hl : (showP q).length ≤ 1000000) (hS : ShowC 25 q (showB q)) : ShowC 53 q (withinB q) := by
  intro w ok k t A n c B m d hp
  obtain ⟨wb, hwb, HB, HN⟩ := boxP w k t A n c B m d
  have HHW : Aside0 (w.alloc (.cells #[.int .i64 k, .string t, .slice A n c, .slice B m d] 25) = wb) := ⟨hwb.symm⟩
  have hk : q.k = k := by
    obtain ⟨k1, t1, ts1, ks1⟩ := q
    obtain ⟨A1, c1, B1, d1, e, _⟩ := path_cells hp
    simp only [List.cons.injEq, Value.int.injEq] at e
    exact e.1.2.symm
  have CS := Aside0.mk (hS wb ok k t A n c B m d (hp.below HB.out))
  obtain ⟨x, hx⟩ : ∃ x, showB q = x := ⟨_, rfl⟩
  have hxs : x.size ≤ 1000000 := by rw [← hx]; unfold showB; rw [ba_size]; exact hl
  rw [hx] at CS
  by_cases h1 : k = 1
  · have HW : Aside0 (withinB q = x) := ⟨by rw [← hx]; unfold withinB showB inB; rw [hk, if_pos h1]⟩
    subst h1
    clear hwb hk hx hS hp
    go_enter Tryd.func53, Tryd.ntmps53
    go_upto_region 1 with (fail)
    rw [HHW.out]
    have q0 := blk_cell HN.out 0
    have q1 := blk_cell HN.out 1
    have q2 := blk_cell HN.out 2
    have q3 := blk_cell HN.out 3
    simp at q0 q1 q2 q3
    go_wp2_with (go_at_call 25; (with_reducible refine CS.out.mono ?_); rintro e w1 ⟨rfl, hb⟩; have HB1 := Aside0.mk (below_then HB.out HB.out.size hb); clear hb)
    go_ret
    exact ⟨ret_str HW.out.symm, HB1.out⟩
  · have HW : Aside0 (withinB q = (⟨#[40]⟩ : ByteArray) ++ x ++ (⟨#[41]⟩ : ByteArray)) := ⟨by
      rw [← hx]; unfold withinB showB inB; rw [hk, if_neg h1]
      apply ByteArray.ext
      rw [ByteArray.data_append, ByteArray.data_append]
      simp⟩
    have hkn : (k == 1) = false := by rw [beq_eq_false_iff_ne]; exact h1
    clear hwb hk hx hS hp h1
    go_enter Tryd.func53, Tryd.ntmps53
    go_upto_region 1 with (fail)
    rw [HHW.out]
    have q0 := blk_cell HN.out 0
    have q1 := blk_cell HN.out 1
    have q2 := blk_cell HN.out 2
    have q3 := blk_cell HN.out 3
    simp at q0 q1 q2 q3
    go_wp2_with (go_at_call 25; (with_reducible refine CS.out.mono ?_); rintro e w1 ⟨rfl, hb⟩; have HB1 := Aside0.mk (below_then HB.out HB.out.size hb); clear hb)
    go_ret
    exact ⟨ret_str HW.out.symm, HB1.out⟩
set_option maxRecDepth 100000 in
set_option maxHeartbeats 8000000 in
theorem show_iri (t0 : ByteArray) (ht0 : iriB t0 = true) : ShowC 25 (.mk 1 t0 [] []) (showB (.mk 1 t0 [] [])) := by
  intro w ok k t A n c B m d hp
  obtain ⟨A1, c1, B1, d1, e, hc1, hd1, hd2, hts, hks⟩ := path_cells hp
  obtain ⟨wb, hwb, HB, HN⟩ := boxP w k t A n c B m d
  have HHW : Aside0 (w.alloc (.cells #[.int .i64 k, .string t, .slice A n c, .slice B m d] 25) = wb) := ⟨hwb.symm⟩
  simp only [List.cons.injEq, Value.int.injEq, Value.string.injEq, Value.slice.injEq, true_and, and_true, List.length_nil, List.length_cons, Nat.zero_add, Nat.reduceAdd] at e hc1 hd1 hd2
  obtain ⟨rfl, rfl, ⟨rfl, rfl, rfl⟩, rfl, rfl, rfl⟩ := e
  have hz := iri_size ht0
  have HW : Aside0 (showB (.mk 1 t [] []) = (⟨#[60]⟩ : ByteArray) ++ t ++ (⟨#[62]⟩ : ByteArray)) := ⟨by
    apply ByteArray.ext
    rw [ByteArray.data_append, ByteArray.data_append]
    apply Array.ext'
    simp [showB, showP, glueL]⟩
  clear hwb hp hts hks ht0
  go_enter Tryd.func25, Tryd.ntmps25
  go_upto_region 1 with (fail)
  rw [HHW.out]
  have q0 := blk_cell HN.out 0; have q1 := blk_cell HN.out 1; have q2 := blk_cell HN.out 2; have q3 := blk_cell HN.out 3; simp at q0 q1 q2 q3
  go_wp2_with fail
  go_ret
  exact ⟨ret_str HW.out.symm, HB.out⟩
set_option maxRecDepth 100000 in
set_option maxHeartbeats 8000000 in
theorem show_back (q : Pth) (hl : (showP q).length ≤ 1000000) (hS : ShowC 53 q (withinB q)) : ShowC 25 (.mk 2 ⟨#[]⟩ [] [q]) (showB (.mk 2 ⟨#[]⟩ [] [q])) := by
  intro w ok k t A n c B m d hp
  obtain ⟨A1, c1, B1, d1, e, hc1, hd1, hd2, hts, hks⟩ := path_cells hp
  obtain ⟨wb, hwb, HB, HN⟩ := boxP w k t A n c B m d
  have HHW : Aside0 (w.alloc (.cells #[.int .i64 k, .string t, .slice A n c, .slice B m d] 25) = wb) := ⟨hwb.symm⟩
  simp only [List.cons.injEq, Value.int.injEq, Value.string.injEq, Value.slice.injEq, true_and, and_true, List.length_nil, List.length_cons, Nat.zero_add, Nat.reduceAdd] at e hc1 hd1 hd2
  obtain ⟨rfl, rfl, ⟨rfl, rfl, rfl⟩, rfl, rfl, rfl⟩ := e
  obtain ⟨x, hx⟩ : ∃ x, withinB q = x := ⟨_, rfl⟩
  have hxs : x.size ≤ 2000000 := by rw [← hx]; unfold withinB; rw [ba_size]; have := inB_len q (showP q); omega
  have HW : Aside0 (showB (.mk 2 ⟨#[]⟩ [] [q]) = (⟨#[94]⟩ : ByteArray) ++ x) := ⟨by
    rw [← hx]
    apply ByteArray.ext
    rw [ByteArray.data_append]
    apply Array.ext'
    simp [showB, showP, showsL, glueL, withinB]⟩
  have hks2 : KidsAt wb ok B 0 [q] := KidsAt.move (fun g _ hg => HB.out.block g hg) _ hks
  obtain ⟨kb0, ko0, cs0, hB0, -, hc0, hq0⟩ := KidsAt.get _ hks2 0 q rfl
  obtain ⟨k0', t0', ts0', ks0'⟩ := q
  obtain ⟨A0', cc0', B0', d0', rfl, -⟩ := path_cells hq0
  have a00 := hc0 0 _ rfl
  have a01 := hc0 1 _ rfl
  have a02 := hc0 2 _ rfl
  have a03 := hc0 3 _ rfl
  simp at a00 a01 a02 a03
  subst hB0
  have CS : Aside0 (∀ W, Below wb.heap.size wb W → Calls Tryd.prog 53 #[.agg #[.int .i64 k0', .string t0', .slice A0' ts0'.length cc0', .slice B0' ks0'.length d0']] W fun e w' => e = .returned (.string x) ∧ Below W.heap.size W w') := ⟨fun W hW => by
    have := hS W ok k0' t0' A0' ts0'.length cc0' B0' ks0'.length d0' (hq0.below hW)
    rwa [hx] at this⟩
  clear hwb hp hts hks hx hS hc0 hq0 hks2 hl
  go_enter Tryd.func25, Tryd.ntmps25
  go_upto_region 1 with (fail)
  rw [HHW.out]
  have q0 := blk_cell HN.out 0; have q1 := blk_cell HN.out 1; have q2 := blk_cell HN.out 2; have q3 := blk_cell HN.out 3; simp at q0 q1 q2 q3
  go_wp2_with (go_at_call 53; (with_reducible refine (CS.out _ (Below.refl _ _)).mono ?_); rintro e w1 ⟨rfl, hb⟩; have HB1 := Aside0.mk (below_then HB.out HB.out.size hb); clear hb)
  go_ret
  exact ⟨ret_str HW.out.symm, HB1.out⟩
set_option maxRecDepth 100000 in
set_option maxHeartbeats 8000000 in
theorem show_star (q : Pth) (hl : (showP q).length ≤ 1000000) (hS : ShowC 53 q (withinB q)) : ShowC 25 (.mk 5 ⟨#[]⟩ [] [q]) (showB (.mk 5 ⟨#[]⟩ [] [q])) := by
  intro w ok k t A n c B m d hp
  obtain ⟨A1, c1, B1, d1, e, hc1, hd1, hd2, hts, hks⟩ := path_cells hp
  obtain ⟨wb, hwb, HB, HN⟩ := boxP w k t A n c B m d
  have HHW : Aside0 (w.alloc (.cells #[.int .i64 k, .string t, .slice A n c, .slice B m d] 25) = wb) := ⟨hwb.symm⟩
  simp only [List.cons.injEq, Value.int.injEq, Value.string.injEq, Value.slice.injEq, true_and, and_true, List.length_nil, List.length_cons, Nat.zero_add, Nat.reduceAdd] at e hc1 hd1 hd2
  obtain ⟨rfl, rfl, ⟨rfl, rfl, rfl⟩, rfl, rfl, rfl⟩ := e
  obtain ⟨x, hx⟩ : ∃ x, withinB q = x := ⟨_, rfl⟩
  have hxs : x.size ≤ 2000000 := by rw [← hx]; unfold withinB; rw [ba_size]; have := inB_len q (showP q); omega
  have HW : Aside0 (showB (.mk 5 ⟨#[]⟩ [] [q]) = x ++ (⟨#[42]⟩ : ByteArray)) := ⟨by
    rw [← hx]
    apply ByteArray.ext
    rw [ByteArray.data_append]
    apply Array.ext'
    simp [showB, showP, showsL, glueL, withinB]⟩
  have hks2 : KidsAt wb ok B 0 [q] := KidsAt.move (fun g _ hg => HB.out.block g hg) _ hks
  obtain ⟨kb0, ko0, cs0, hB0, -, hc0, hq0⟩ := KidsAt.get _ hks2 0 q rfl
  obtain ⟨k0', t0', ts0', ks0'⟩ := q
  obtain ⟨A0', cc0', B0', d0', rfl, -⟩ := path_cells hq0
  have a00 := hc0 0 _ rfl
  have a01 := hc0 1 _ rfl
  have a02 := hc0 2 _ rfl
  have a03 := hc0 3 _ rfl
  simp at a00 a01 a02 a03
  subst hB0
  have CS : Aside0 (∀ W, Below wb.heap.size wb W → Calls Tryd.prog 53 #[.agg #[.int .i64 k0', .string t0', .slice A0' ts0'.length cc0', .slice B0' ks0'.length d0']] W fun e w' => e = .returned (.string x) ∧ Below W.heap.size W w') := ⟨fun W hW => by
    have := hS W ok k0' t0' A0' ts0'.length cc0' B0' ks0'.length d0' (hq0.below hW)
    rwa [hx] at this⟩
  clear hwb hp hts hks hx hS hc0 hq0 hks2 hl
  go_enter Tryd.func25, Tryd.ntmps25
  go_upto_region 1 with (fail)
  rw [HHW.out]
  have q0 := blk_cell HN.out 0; have q1 := blk_cell HN.out 1; have q2 := blk_cell HN.out 2; have q3 := blk_cell HN.out 3; simp at q0 q1 q2 q3
  go_wp2_with (go_at_call 53; (with_reducible refine (CS.out _ (Below.refl _ _)).mono ?_); rintro e w1 ⟨rfl, hb⟩; have HB1 := Aside0.mk (below_then HB.out HB.out.size hb); clear hb)
  go_ret
  exact ⟨ret_str HW.out.symm, HB1.out⟩
set_option maxRecDepth 100000 in
set_option maxHeartbeats 8000000 in
theorem show_plus (q : Pth) (hl : (showP q).length ≤ 1000000) (hS : ShowC 53 q (withinB q)) : ShowC 25 (.mk 6 ⟨#[]⟩ [] [q]) (showB (.mk 6 ⟨#[]⟩ [] [q])) := by
  intro w ok k t A n c B m d hp
  obtain ⟨A1, c1, B1, d1, e, hc1, hd1, hd2, hts, hks⟩ := path_cells hp
  obtain ⟨wb, hwb, HB, HN⟩ := boxP w k t A n c B m d
  have HHW : Aside0 (w.alloc (.cells #[.int .i64 k, .string t, .slice A n c, .slice B m d] 25) = wb) := ⟨hwb.symm⟩
  simp only [List.cons.injEq, Value.int.injEq, Value.string.injEq, Value.slice.injEq, true_and, and_true, List.length_nil, List.length_cons, Nat.zero_add, Nat.reduceAdd] at e hc1 hd1 hd2
  obtain ⟨rfl, rfl, ⟨rfl, rfl, rfl⟩, rfl, rfl, rfl⟩ := e
  obtain ⟨x, hx⟩ : ∃ x, withinB q = x := ⟨_, rfl⟩
  have hxs : x.size ≤ 2000000 := by rw [← hx]; unfold withinB; rw [ba_size]; have := inB_len q (showP q); omega
  have HW : Aside0 (showB (.mk 6 ⟨#[]⟩ [] [q]) = x ++ (⟨#[43]⟩ : ByteArray)) := ⟨by
    rw [← hx]
    apply ByteArray.ext
    rw [ByteArray.data_append]
    apply Array.ext'
    simp [showB, showP, showsL, glueL, withinB]⟩
  have hks2 : KidsAt wb ok B 0 [q] := KidsAt.move (fun g _ hg => HB.out.block g hg) _ hks
  obtain ⟨kb0, ko0, cs0, hB0, -, hc0, hq0⟩ := KidsAt.get _ hks2 0 q rfl
  obtain ⟨k0', t0', ts0', ks0'⟩ := q
  obtain ⟨A0', cc0', B0', d0', rfl, -⟩ := path_cells hq0
  have a00 := hc0 0 _ rfl
  have a01 := hc0 1 _ rfl
  have a02 := hc0 2 _ rfl
  have a03 := hc0 3 _ rfl
  simp at a00 a01 a02 a03
  subst hB0
  have CS : Aside0 (∀ W, Below wb.heap.size wb W → Calls Tryd.prog 53 #[.agg #[.int .i64 k0', .string t0', .slice A0' ts0'.length cc0', .slice B0' ks0'.length d0']] W fun e w' => e = .returned (.string x) ∧ Below W.heap.size W w') := ⟨fun W hW => by
    have := hS W ok k0' t0' A0' ts0'.length cc0' B0' ks0'.length d0' (hq0.below hW)
    rwa [hx] at this⟩
  clear hwb hp hts hks hx hS hc0 hq0 hks2 hl
  go_enter Tryd.func25, Tryd.ntmps25
  go_upto_region 1 with (fail)
  rw [HHW.out]
  have q0 := blk_cell HN.out 0; have q1 := blk_cell HN.out 1; have q2 := blk_cell HN.out 2; have q3 := blk_cell HN.out 3; simp at q0 q1 q2 q3
  go_wp2_with (go_at_call 53; (with_reducible refine (CS.out _ (Below.refl _ _)).mono ?_); rintro e w1 ⟨rfl, hb⟩; have HB1 := Aside0.mk (below_then HB.out HB.out.size hb); clear hb)
  go_ret
  exact ⟨ret_str HW.out.symm, HB1.out⟩
set_option maxRecDepth 100000 in
set_option maxHeartbeats 8000000 in
theorem show_maybe (q : Pth) (hl : (showP q).length ≤ 1000000) (hS : ShowC 53 q (withinB q)) : ShowC 25 (.mk 7 ⟨#[]⟩ [] [q]) (showB (.mk 7 ⟨#[]⟩ [] [q])) := by
  intro w ok k t A n c B m d hp
  obtain ⟨A1, c1, B1, d1, e, hc1, hd1, hd2, hts, hks⟩ := path_cells hp
  obtain ⟨wb, hwb, HB, HN⟩ := boxP w k t A n c B m d
  have HHW : Aside0 (w.alloc (.cells #[.int .i64 k, .string t, .slice A n c, .slice B m d] 25) = wb) := ⟨hwb.symm⟩
  simp only [List.cons.injEq, Value.int.injEq, Value.string.injEq, Value.slice.injEq, true_and, and_true, List.length_nil, List.length_cons, Nat.zero_add, Nat.reduceAdd] at e hc1 hd1 hd2
  obtain ⟨rfl, rfl, ⟨rfl, rfl, rfl⟩, rfl, rfl, rfl⟩ := e
  obtain ⟨x, hx⟩ : ∃ x, withinB q = x := ⟨_, rfl⟩
  have hxs : x.size ≤ 2000000 := by rw [← hx]; unfold withinB; rw [ba_size]; have := inB_len q (showP q); omega
  have HW : Aside0 (showB (.mk 7 ⟨#[]⟩ [] [q]) = x ++ (⟨#[63]⟩ : ByteArray)) := ⟨by
    rw [← hx]
    apply ByteArray.ext
    rw [ByteArray.data_append]
    apply Array.ext'
    simp [showB, showP, showsL, glueL, withinB]⟩
  have hks2 : KidsAt wb ok B 0 [q] := KidsAt.move (fun g _ hg => HB.out.block g hg) _ hks
  obtain ⟨kb0, ko0, cs0, hB0, -, hc0, hq0⟩ := KidsAt.get _ hks2 0 q rfl
  obtain ⟨k0', t0', ts0', ks0'⟩ := q
  obtain ⟨A0', cc0', B0', d0', rfl, -⟩ := path_cells hq0
  have a00 := hc0 0 _ rfl
  have a01 := hc0 1 _ rfl
  have a02 := hc0 2 _ rfl
  have a03 := hc0 3 _ rfl
  simp at a00 a01 a02 a03
  subst hB0
  have CS : Aside0 (∀ W, Below wb.heap.size wb W → Calls Tryd.prog 53 #[.agg #[.int .i64 k0', .string t0', .slice A0' ts0'.length cc0', .slice B0' ks0'.length d0']] W fun e w' => e = .returned (.string x) ∧ Below W.heap.size W w') := ⟨fun W hW => by
    have := hS W ok k0' t0' A0' ts0'.length cc0' B0' ks0'.length d0' (hq0.below hW)
    rwa [hx] at this⟩
  clear hwb hp hts hks hx hS hc0 hq0 hks2 hl
  go_enter Tryd.func25, Tryd.ntmps25
  go_upto_region 1 with (fail)
  rw [HHW.out]
  have q0 := blk_cell HN.out 0; have q1 := blk_cell HN.out 1; have q2 := blk_cell HN.out 2; have q3 := blk_cell HN.out 3; simp at q0 q1 q2 q3
  go_wp2_with (go_at_call 53; (with_reducible refine (CS.out _ (Below.refl _ _)).mono ?_); rintro e w1 ⟨rfl, hb⟩; have HB1 := Aside0.mk (below_then HB.out HB.out.size hb); clear hb)
  go_ret
  exact ⟨ret_str HW.out.symm, HB1.out⟩
set_option maxRecDepth 100000 in
set_option maxHeartbeats 8000000 in
theorem show_seq (q q2 : Pth) (hl : (showP q).length ≤ 1000000) (hl2 : (showP q2).length ≤ 1000000) (hS : ShowC 53 q (withinB q)) (hS2 : ShowC 53 q2 (withinB q2)) : ShowC 25 (.mk 3 ⟨#[]⟩ [] [q, q2]) (showB (.mk 3 ⟨#[]⟩ [] [q, q2])) := by
  intro w ok k t A n c B m d hp
  obtain ⟨A1, c1, B1, d1, e, hc1, hd1, hd2, hts, hks⟩ := path_cells hp
  obtain ⟨wb, hwb, HB, HN⟩ := boxP w k t A n c B m d
  have HHW : Aside0 (w.alloc (.cells #[.int .i64 k, .string t, .slice A n c, .slice B m d] 25) = wb) := ⟨hwb.symm⟩
  simp only [List.cons.injEq, Value.int.injEq, Value.string.injEq, Value.slice.injEq, true_and, and_true, List.length_nil, List.length_cons, Nat.zero_add, Nat.reduceAdd] at e hc1 hd1 hd2
  obtain ⟨rfl, rfl, ⟨rfl, rfl, rfl⟩, rfl, rfl, rfl⟩ := e
  obtain ⟨x, hx⟩ : ∃ x, withinB q = x := ⟨_, rfl⟩
  obtain ⟨y, hy⟩ : ∃ y, withinB q2 = y := ⟨_, rfl⟩
  have hxs : x.size ≤ 2000000 := by rw [← hx]; unfold withinB; rw [ba_size]; have := inB_len q (showP q); omega
  have hys : y.size ≤ 2000000 := by rw [← hy]; unfold withinB; rw [ba_size]; have := inB_len q2 (showP q2); omega
  have HW : Aside0 (showB (.mk 3 ⟨#[]⟩ [] [q, q2]) = x ++ (⟨#[47]⟩ : ByteArray) ++ y) := ⟨by
    rw [← hx, ← hy]
    apply ByteArray.ext
    rw [ByteArray.data_append, ByteArray.data_append]
    apply Array.ext'
    simp [showB, showP, showsL, glueL, withinB]⟩
  have hks2 : KidsAt wb ok B 0 [q, q2] := KidsAt.move (fun g _ hg => HB.out.block g hg) _ hks
  obtain ⟨kb0, ko0, cs0, hB0, -, hc0, hq0⟩ := KidsAt.get _ hks2 0 q rfl
  obtain ⟨k0', t0', ts0', ks0'⟩ := q
  obtain ⟨A0', cc0', B0', d0', rfl, -⟩ := path_cells hq0
  obtain ⟨kb1, ko1, cs1, hB1, -, hc1, hq1⟩ := KidsAt.get _ hks2 1 q2 rfl
  obtain ⟨k1', t1', ts1', ks1'⟩ := q2
  obtain ⟨A1', cc1', B1', d1', rfl, -⟩ := path_cells hq1
  have hBe : (⟨kb1, ko1, none⟩ : Addr) = ⟨kb0, ko0, none⟩ := Option.some.inj (hB1.symm.trans hB0)
  injection hBe with hb1 ho1
  subst hb1 ho1
  have a00 := hc0 0 _ rfl
  have a01 := hc0 1 _ rfl
  have a02 := hc0 2 _ rfl
  have a03 := hc0 3 _ rfl
  simp at a00 a01 a02 a03
  have a10 := hc1 0 _ rfl
  have a11 := hc1 1 _ rfl
  have a12 := hc1 2 _ rfl
  have a13 := hc1 3 _ rfl
  simp [Nat.add_assoc] at a10 a11 a12 a13
  subst hB0
  have CS : Aside0 (∀ W, Below wb.heap.size wb W → Calls Tryd.prog 53 #[.agg #[.int .i64 k0', .string t0', .slice A0' ts0'.length cc0', .slice B0' ks0'.length d0']] W fun e w' => e = .returned (.string x) ∧ Below W.heap.size W w') := ⟨fun W hW => by
    have := hS W ok k0' t0' A0' ts0'.length cc0' B0' ks0'.length d0' (hq0.below hW)
    rwa [hx] at this⟩
  have CS2 : Aside0 (∀ W, Below wb.heap.size wb W → Calls Tryd.prog 53 #[.agg #[.int .i64 k1', .string t1', .slice A1' ts1'.length cc1', .slice B1' ks1'.length d1']] W fun e w' => e = .returned (.string y) ∧ Below W.heap.size W w') := ⟨fun W hW => by
    have := hS2 W ok k1' t1' A1' ts1'.length cc1' B1' ks1'.length d1' (hq1.below hW)
    rwa [hy] at this⟩
  have q3 := blk_cell HN.out 3
  simp at q3
  have HS : Aside0 (∀ W, Below wb.heap.size wb W → (fun W : World => (W.cell? ⟨w.heap.size, 3, none⟩ = some (.slice (some ⟨kb1, ko1, none⟩) 2 d)) ∧ (W.cell? ⟨kb1, ko1, none⟩ = some (.int .i64 k0') ∧ W.cell? ⟨kb1, ko1 + 1, none⟩ = some (.string t0') ∧ W.cell? ⟨kb1, ko1 + 2, none⟩ = some (.slice A0' ts0'.length cc0') ∧ W.cell? ⟨kb1, ko1 + 3, none⟩ = some (.slice B0' ks0'.length d0')) ∧ (W.cell? ⟨kb1, ko1 + 4, none⟩ = some (.int .i64 k1') ∧ W.cell? ⟨kb1, ko1 + 5, none⟩ = some (.string t1') ∧ W.cell? ⟨kb1, ko1 + 6, none⟩ = some (.slice A1' ts1'.length cc1') ∧ W.cell? ⟨kb1, ko1 + 7, none⟩ = some (.slice B1' ks1'.length d1'))) W) := ⟨fun W h => ⟨pw_cell_below h q3, ⟨pw_cell_below h a00, pw_cell_below h a01, pw_cell_below h a02, pw_cell_below h a03⟩, ⟨pw_cell_below h a10, pw_cell_below h a11, pw_cell_below h a12, pw_cell_below h a13⟩⟩⟩
  clear hwb hp hts hks hx hy hS hS2 hc0 hq0 hc1 hq1 hks2 hl hl2 a00 a01 a02 a03 a10 a11 a12 a13 q3
  have hn1 : ¬ 9223372036854775807 < x.size + 1 := by omega
  have hn2 : ¬ 9223372036854775807 < x.size + 1 + y.size := by omega
  clear hB1
  go_enter Tryd.func25, Tryd.ntmps25
  go_upto_region 1 with (fail)
  rw [HHW.out]
  have q0 := blk_cell HN.out 0; have q1 := blk_cell HN.out 1; have q2 := blk_cell HN.out 2; have q3 := blk_cell HN.out 3; simp at q0 q1 q2 q3
  go_upto_region 7 with (fail)
  clear q0 q1 q2 q3
  have hS : (fun W : World => (W.cell? ⟨w.heap.size, 3, none⟩ = some (.slice (some ⟨kb1, ko1, none⟩) 2 d)) ∧ (W.cell? ⟨kb1, ko1, none⟩ = some (.int .i64 k0') ∧ W.cell? ⟨kb1, ko1 + 1, none⟩ = some (.string t0') ∧ W.cell? ⟨kb1, ko1 + 2, none⟩ = some (.slice A0' ts0'.length cc0') ∧ W.cell? ⟨kb1, ko1 + 3, none⟩ = some (.slice B0' ks0'.length d0')) ∧ (W.cell? ⟨kb1, ko1 + 4, none⟩ = some (.int .i64 k1') ∧ W.cell? ⟨kb1, ko1 + 5, none⟩ = some (.string t1') ∧ W.cell? ⟨kb1, ko1 + 6, none⟩ = some (.slice A1' ts1'.length cc1') ∧ W.cell? ⟨kb1, ko1 + 7, none⟩ = some (.slice B1' ks1'.length d1'))) wb.drew := HS.out _ (below_drew (Below.refl _ _))
  refine wp_region_held (S := (fun W : World => (W.cell? ⟨w.heap.size, 3, none⟩ = some (.slice (some ⟨kb1, ko1, none⟩) 2 d)) ∧ (W.cell? ⟨kb1, ko1, none⟩ = some (.int .i64 k0') ∧ W.cell? ⟨kb1, ko1 + 1, none⟩ = some (.string t0') ∧ W.cell? ⟨kb1, ko1 + 2, none⟩ = some (.slice A0' ts0'.length cc0') ∧ W.cell? ⟨kb1, ko1 + 3, none⟩ = some (.slice B0' ks0'.length d0')) ∧ (W.cell? ⟨kb1, ko1 + 4, none⟩ = some (.int .i64 k1') ∧ W.cell? ⟨kb1, ko1 + 5, none⟩ = some (.string t1') ∧ W.cell? ⟨kb1, ko1 + 6, none⟩ = some (.slice A1' ts1'.length cc1') ∧ W.cell? ⟨kb1, ko1 + 7, none⟩ = some (.slice B1' ks1'.length d1')))) (by kernel_rfl) ?_
  change wpAnyH _ _ _ _ _ _ _ _ wb.drew
  first | refine tkU 0 hS ?_ | (refine tkV 0 (v := ?_) hS ?_ ?_; rotate_left 1; · (intro w0 hSw; (try dsimp only at hSw); go_split_ands; go_simp; try with_reducible rfl)) | fail
  try simp only [Act.put, pL]
  first | refine tkU 1 hS ?_ | (refine tkV 1 (v := ?_) hS ?_ ?_; rotate_left 1; · (intro w0 hSw; (try dsimp only at hSw); go_split_ands; go_simp; try with_reducible rfl)) | fail
  try simp only [Act.put, pL]
  first | refine tkU 2 hS ?_ | (refine tkV 2 (v := ?_) hS ?_ ?_; rotate_left 1; · (intro w0 hSw; (try dsimp only at hSw); go_split_ands; go_simp; try with_reducible rfl)) | fail
  try simp only [Act.put, pL]
  first | refine tkU 3 hS ?_ | (refine tkV 3 (v := ?_) hS ?_ ?_; rotate_left 1; · (intro w0 hSw; (try dsimp only at hSw); go_split_ands; go_simp; try with_reducible rfl)) | fail
  try simp only [Act.put, pL]
  first | refine tkU 6 hS ?_ | (refine tkV 6 (v := ?_) hS ?_ ?_; rotate_left 1; · (intro w0 hSw; (try dsimp only at hSw); go_split_ands; go_simp; try with_reducible rfl)) | fail
  try simp only [Act.put, pL]
  first | refine tkU 7 hS ?_ | (refine tkV 7 (v := ?_) hS ?_ ?_; rotate_left 1; · (intro w0 hSw; (try dsimp only at hSw); go_split_ands; go_simp; try with_reducible rfl)) | fail
  try simp only [Act.put, pL]
  first | refine tkU 8 hS ?_ | (refine tkV 8 (v := ?_) hS ?_ ?_; rotate_left 1; · (intro w0 hSw; (try dsimp only at hSw); go_split_ands; go_simp; try with_reducible rfl)) | fail
  try simp only [Act.put, pL]
  first | refine tkU 9 hS ?_ | (refine tkV 9 (v := ?_) hS ?_ ?_; rotate_left 1; · (intro w0 hSw; (try dsimp only at hSw); go_split_ands; go_simp; try with_reducible rfl)) | fail
  try simp only [Act.put, pL]
  refine wpAnyH_ready (rs := [4]) (by kernel_rfl) (by simp) ?_
  refine AllReadyH.cons rfl (fun K hK => ?_) AllReadyH.nil
  go_simp
  refine (CS.out _ (below_drew (Below.refl _ _))).mono ?_
  rintro e w1 ⟨rfl, hb⟩
  have HB1 := Aside0.mk (below_then (below_drew (Below.refl wb.heap.size wb)) (Nat.le_refl _) hb)
  clear hb hS
  have hS : (fun W : World => (W.cell? ⟨w.heap.size, 3, none⟩ = some (.slice (some ⟨kb1, ko1, none⟩) 2 d)) ∧ (W.cell? ⟨kb1, ko1, none⟩ = some (.int .i64 k0') ∧ W.cell? ⟨kb1, ko1 + 1, none⟩ = some (.string t0') ∧ W.cell? ⟨kb1, ko1 + 2, none⟩ = some (.slice A0' ts0'.length cc0') ∧ W.cell? ⟨kb1, ko1 + 3, none⟩ = some (.slice B0' ks0'.length d0')) ∧ (W.cell? ⟨kb1, ko1 + 4, none⟩ = some (.int .i64 k1') ∧ W.cell? ⟨kb1, ko1 + 5, none⟩ = some (.string t1') ∧ W.cell? ⟨kb1, ko1 + 6, none⟩ = some (.slice A1' ts1'.length cc1') ∧ W.cell? ⟨kb1, ko1 + 7, none⟩ = some (.slice B1' ks1'.length d1'))) w1 := HS.out _ HB1.out
  refine hK.out _ _ hS (fun _ => ?_)
  clear hK K
  try simp only [Act.put, pL]
  first | refine tkU 5 hS ?_ | (refine tkV 5 (v := ?_) hS ?_ ?_; rotate_left 1; · (intro w0 hSw; (try dsimp only at hSw); go_split_ands; go_simp; try with_reducible rfl)) | fail
  try simp only [Act.put, pL]
  refine wpAnyH_ready (rs := [10]) (by kernel_rfl) (by simp) ?_
  refine AllReadyH.cons rfl (fun K hK => ?_) AllReadyH.nil
  go_simp
  refine (CS2.out _ HB1.out).mono ?_
  rintro e w2 ⟨rfl, hb⟩
  have HB2 := Aside0.mk (below_then HB1.out HB1.out.size hb)
  clear hb hS
  have hS : (fun W : World => (W.cell? ⟨w.heap.size, 3, none⟩ = some (.slice (some ⟨kb1, ko1, none⟩) 2 d)) ∧ (W.cell? ⟨kb1, ko1, none⟩ = some (.int .i64 k0') ∧ W.cell? ⟨kb1, ko1 + 1, none⟩ = some (.string t0') ∧ W.cell? ⟨kb1, ko1 + 2, none⟩ = some (.slice A0' ts0'.length cc0') ∧ W.cell? ⟨kb1, ko1 + 3, none⟩ = some (.slice B0' ks0'.length d0')) ∧ (W.cell? ⟨kb1, ko1 + 4, none⟩ = some (.int .i64 k1') ∧ W.cell? ⟨kb1, ko1 + 5, none⟩ = some (.string t1') ∧ W.cell? ⟨kb1, ko1 + 6, none⟩ = some (.slice A1' ts1'.length cc1') ∧ W.cell? ⟨kb1, ko1 + 7, none⟩ = some (.slice B1' ks1'.length d1'))) w2 := HS.out _ HB2.out
  refine hK.out _ _ hS (fun _ => ?_)
  clear hK K
  try simp only [Act.put, pL]
  first | refine tkU 11 hS ?_ | (refine tkV 11 (v := ?_) hS ?_ ?_; rotate_left 1; · (intro w0 hSw; (try dsimp only at hSw); go_split_ands; go_simp; try with_reducible rfl)) | fail
  try simp only [Act.put, pL]
  first | refine tkU 12 hS ?_ | (refine tkV 12 (v := ?_) hS ?_ ?_; rotate_left 1; · (intro w0 hSw; (try dsimp only at hSw); go_split_ands; go_simp; try with_reducible rfl)) | fail
  try simp only [Act.put, pL]
  refine wpAnyH_done (by kernel_rfl) ?_ _
  go_wp2_with fail
  go_ret
  exact ⟨ret_str HW.out.symm, HB.out.trans (HB2.out.mono HB.out.size)⟩
set_option maxRecDepth 100000 in
set_option maxHeartbeats 8000000 in
theorem show_alt (q q2 : Pth) (hl : (showP q).length ≤ 1000000) (hl2 : (showP q2).length ≤ 1000000) (hS : ShowC 53 q (withinB q)) (hS2 : ShowC 53 q2 (withinB q2)) : ShowC 25 (.mk 4 ⟨#[]⟩ [] [q, q2]) (showB (.mk 4 ⟨#[]⟩ [] [q, q2])) := by
  intro w ok k t A n c B m d hp
  obtain ⟨A1, c1, B1, d1, e, hc1, hd1, hd2, hts, hks⟩ := path_cells hp
  obtain ⟨wb, hwb, HB, HN⟩ := boxP w k t A n c B m d
  have HHW : Aside0 (w.alloc (.cells #[.int .i64 k, .string t, .slice A n c, .slice B m d] 25) = wb) := ⟨hwb.symm⟩
  simp only [List.cons.injEq, Value.int.injEq, Value.string.injEq, Value.slice.injEq, true_and, and_true, List.length_nil, List.length_cons, Nat.zero_add, Nat.reduceAdd] at e hc1 hd1 hd2
  obtain ⟨rfl, rfl, ⟨rfl, rfl, rfl⟩, rfl, rfl, rfl⟩ := e
  obtain ⟨x, hx⟩ : ∃ x, withinB q = x := ⟨_, rfl⟩
  obtain ⟨y, hy⟩ : ∃ y, withinB q2 = y := ⟨_, rfl⟩
  have hxs : x.size ≤ 2000000 := by rw [← hx]; unfold withinB; rw [ba_size]; have := inB_len q (showP q); omega
  have hys : y.size ≤ 2000000 := by rw [← hy]; unfold withinB; rw [ba_size]; have := inB_len q2 (showP q2); omega
  have HW : Aside0 (showB (.mk 4 ⟨#[]⟩ [] [q, q2]) = x ++ (⟨#[124]⟩ : ByteArray) ++ y) := ⟨by
    rw [← hx, ← hy]
    apply ByteArray.ext
    rw [ByteArray.data_append, ByteArray.data_append]
    apply Array.ext'
    simp [showB, showP, showsL, glueL, withinB]⟩
  have hks2 : KidsAt wb ok B 0 [q, q2] := KidsAt.move (fun g _ hg => HB.out.block g hg) _ hks
  obtain ⟨kb0, ko0, cs0, hB0, -, hc0, hq0⟩ := KidsAt.get _ hks2 0 q rfl
  obtain ⟨k0', t0', ts0', ks0'⟩ := q
  obtain ⟨A0', cc0', B0', d0', rfl, -⟩ := path_cells hq0
  obtain ⟨kb1, ko1, cs1, hB1, -, hc1, hq1⟩ := KidsAt.get _ hks2 1 q2 rfl
  obtain ⟨k1', t1', ts1', ks1'⟩ := q2
  obtain ⟨A1', cc1', B1', d1', rfl, -⟩ := path_cells hq1
  have hBe : (⟨kb1, ko1, none⟩ : Addr) = ⟨kb0, ko0, none⟩ := Option.some.inj (hB1.symm.trans hB0)
  injection hBe with hb1 ho1
  subst hb1 ho1
  have a00 := hc0 0 _ rfl
  have a01 := hc0 1 _ rfl
  have a02 := hc0 2 _ rfl
  have a03 := hc0 3 _ rfl
  simp at a00 a01 a02 a03
  have a10 := hc1 0 _ rfl
  have a11 := hc1 1 _ rfl
  have a12 := hc1 2 _ rfl
  have a13 := hc1 3 _ rfl
  simp [Nat.add_assoc] at a10 a11 a12 a13
  subst hB0
  have CS : Aside0 (∀ W, Below wb.heap.size wb W → Calls Tryd.prog 53 #[.agg #[.int .i64 k0', .string t0', .slice A0' ts0'.length cc0', .slice B0' ks0'.length d0']] W fun e w' => e = .returned (.string x) ∧ Below W.heap.size W w') := ⟨fun W hW => by
    have := hS W ok k0' t0' A0' ts0'.length cc0' B0' ks0'.length d0' (hq0.below hW)
    rwa [hx] at this⟩
  have CS2 : Aside0 (∀ W, Below wb.heap.size wb W → Calls Tryd.prog 53 #[.agg #[.int .i64 k1', .string t1', .slice A1' ts1'.length cc1', .slice B1' ks1'.length d1']] W fun e w' => e = .returned (.string y) ∧ Below W.heap.size W w') := ⟨fun W hW => by
    have := hS2 W ok k1' t1' A1' ts1'.length cc1' B1' ks1'.length d1' (hq1.below hW)
    rwa [hy] at this⟩
  have q3 := blk_cell HN.out 3
  simp at q3
  have HS : Aside0 (∀ W, Below wb.heap.size wb W → (fun W : World => (W.cell? ⟨w.heap.size, 3, none⟩ = some (.slice (some ⟨kb1, ko1, none⟩) 2 d)) ∧ (W.cell? ⟨kb1, ko1, none⟩ = some (.int .i64 k0') ∧ W.cell? ⟨kb1, ko1 + 1, none⟩ = some (.string t0') ∧ W.cell? ⟨kb1, ko1 + 2, none⟩ = some (.slice A0' ts0'.length cc0') ∧ W.cell? ⟨kb1, ko1 + 3, none⟩ = some (.slice B0' ks0'.length d0')) ∧ (W.cell? ⟨kb1, ko1 + 4, none⟩ = some (.int .i64 k1') ∧ W.cell? ⟨kb1, ko1 + 5, none⟩ = some (.string t1') ∧ W.cell? ⟨kb1, ko1 + 6, none⟩ = some (.slice A1' ts1'.length cc1') ∧ W.cell? ⟨kb1, ko1 + 7, none⟩ = some (.slice B1' ks1'.length d1'))) W) := ⟨fun W h => ⟨pw_cell_below h q3, ⟨pw_cell_below h a00, pw_cell_below h a01, pw_cell_below h a02, pw_cell_below h a03⟩, ⟨pw_cell_below h a10, pw_cell_below h a11, pw_cell_below h a12, pw_cell_below h a13⟩⟩⟩
  clear hwb hp hts hks hx hy hS hS2 hc0 hq0 hc1 hq1 hks2 hl hl2 a00 a01 a02 a03 a10 a11 a12 a13 q3
  have hn1 : ¬ 9223372036854775807 < x.size + 1 := by omega
  have hn2 : ¬ 9223372036854775807 < x.size + 1 + y.size := by omega
  clear hB1
  go_enter Tryd.func25, Tryd.ntmps25
  go_upto_region 1 with (fail)
  rw [HHW.out]
  have q0 := blk_cell HN.out 0; have q1 := blk_cell HN.out 1; have q2 := blk_cell HN.out 2; have q3 := blk_cell HN.out 3; simp at q0 q1 q2 q3
  go_upto_region 9 with (fail)
  clear q0 q1 q2 q3
  have hS : (fun W : World => (W.cell? ⟨w.heap.size, 3, none⟩ = some (.slice (some ⟨kb1, ko1, none⟩) 2 d)) ∧ (W.cell? ⟨kb1, ko1, none⟩ = some (.int .i64 k0') ∧ W.cell? ⟨kb1, ko1 + 1, none⟩ = some (.string t0') ∧ W.cell? ⟨kb1, ko1 + 2, none⟩ = some (.slice A0' ts0'.length cc0') ∧ W.cell? ⟨kb1, ko1 + 3, none⟩ = some (.slice B0' ks0'.length d0')) ∧ (W.cell? ⟨kb1, ko1 + 4, none⟩ = some (.int .i64 k1') ∧ W.cell? ⟨kb1, ko1 + 5, none⟩ = some (.string t1') ∧ W.cell? ⟨kb1, ko1 + 6, none⟩ = some (.slice A1' ts1'.length cc1') ∧ W.cell? ⟨kb1, ko1 + 7, none⟩ = some (.slice B1' ks1'.length d1'))) wb.drew := HS.out _ (below_drew (Below.refl _ _))
  refine wp_region_held (S := (fun W : World => (W.cell? ⟨w.heap.size, 3, none⟩ = some (.slice (some ⟨kb1, ko1, none⟩) 2 d)) ∧ (W.cell? ⟨kb1, ko1, none⟩ = some (.int .i64 k0') ∧ W.cell? ⟨kb1, ko1 + 1, none⟩ = some (.string t0') ∧ W.cell? ⟨kb1, ko1 + 2, none⟩ = some (.slice A0' ts0'.length cc0') ∧ W.cell? ⟨kb1, ko1 + 3, none⟩ = some (.slice B0' ks0'.length d0')) ∧ (W.cell? ⟨kb1, ko1 + 4, none⟩ = some (.int .i64 k1') ∧ W.cell? ⟨kb1, ko1 + 5, none⟩ = some (.string t1') ∧ W.cell? ⟨kb1, ko1 + 6, none⟩ = some (.slice A1' ts1'.length cc1') ∧ W.cell? ⟨kb1, ko1 + 7, none⟩ = some (.slice B1' ks1'.length d1')))) (by kernel_rfl) ?_
  change wpAnyH _ _ _ _ _ _ _ _ wb.drew
  first | refine tkU 0 hS ?_ | (refine tkV 0 (v := ?_) hS ?_ ?_; rotate_left 1; · (intro w0 hSw; (try dsimp only at hSw); go_split_ands; go_simp; try with_reducible rfl)) | fail
  try simp only [Act.put, pL]
  first | refine tkU 1 hS ?_ | (refine tkV 1 (v := ?_) hS ?_ ?_; rotate_left 1; · (intro w0 hSw; (try dsimp only at hSw); go_split_ands; go_simp; try with_reducible rfl)) | fail
  try simp only [Act.put, pL]
  first | refine tkU 2 hS ?_ | (refine tkV 2 (v := ?_) hS ?_ ?_; rotate_left 1; · (intro w0 hSw; (try dsimp only at hSw); go_split_ands; go_simp; try with_reducible rfl)) | fail
  try simp only [Act.put, pL]
  first | refine tkU 3 hS ?_ | (refine tkV 3 (v := ?_) hS ?_ ?_; rotate_left 1; · (intro w0 hSw; (try dsimp only at hSw); go_split_ands; go_simp; try with_reducible rfl)) | fail
  try simp only [Act.put, pL]
  first | refine tkU 6 hS ?_ | (refine tkV 6 (v := ?_) hS ?_ ?_; rotate_left 1; · (intro w0 hSw; (try dsimp only at hSw); go_split_ands; go_simp; try with_reducible rfl)) | fail
  try simp only [Act.put, pL]
  first | refine tkU 7 hS ?_ | (refine tkV 7 (v := ?_) hS ?_ ?_; rotate_left 1; · (intro w0 hSw; (try dsimp only at hSw); go_split_ands; go_simp; try with_reducible rfl)) | fail
  try simp only [Act.put, pL]
  first | refine tkU 8 hS ?_ | (refine tkV 8 (v := ?_) hS ?_ ?_; rotate_left 1; · (intro w0 hSw; (try dsimp only at hSw); go_split_ands; go_simp; try with_reducible rfl)) | fail
  try simp only [Act.put, pL]
  first | refine tkU 9 hS ?_ | (refine tkV 9 (v := ?_) hS ?_ ?_; rotate_left 1; · (intro w0 hSw; (try dsimp only at hSw); go_split_ands; go_simp; try with_reducible rfl)) | fail
  try simp only [Act.put, pL]
  refine wpAnyH_ready (rs := [4]) (by kernel_rfl) (by simp) ?_
  refine AllReadyH.cons rfl (fun K hK => ?_) AllReadyH.nil
  go_simp
  refine (CS.out _ (below_drew (Below.refl _ _))).mono ?_
  rintro e w1 ⟨rfl, hb⟩
  have HB1 := Aside0.mk (below_then (below_drew (Below.refl wb.heap.size wb)) (Nat.le_refl _) hb)
  clear hb hS
  have hS : (fun W : World => (W.cell? ⟨w.heap.size, 3, none⟩ = some (.slice (some ⟨kb1, ko1, none⟩) 2 d)) ∧ (W.cell? ⟨kb1, ko1, none⟩ = some (.int .i64 k0') ∧ W.cell? ⟨kb1, ko1 + 1, none⟩ = some (.string t0') ∧ W.cell? ⟨kb1, ko1 + 2, none⟩ = some (.slice A0' ts0'.length cc0') ∧ W.cell? ⟨kb1, ko1 + 3, none⟩ = some (.slice B0' ks0'.length d0')) ∧ (W.cell? ⟨kb1, ko1 + 4, none⟩ = some (.int .i64 k1') ∧ W.cell? ⟨kb1, ko1 + 5, none⟩ = some (.string t1') ∧ W.cell? ⟨kb1, ko1 + 6, none⟩ = some (.slice A1' ts1'.length cc1') ∧ W.cell? ⟨kb1, ko1 + 7, none⟩ = some (.slice B1' ks1'.length d1'))) w1 := HS.out _ HB1.out
  refine hK.out _ _ hS (fun _ => ?_)
  clear hK K
  try simp only [Act.put, pL]
  first | refine tkU 5 hS ?_ | (refine tkV 5 (v := ?_) hS ?_ ?_; rotate_left 1; · (intro w0 hSw; (try dsimp only at hSw); go_split_ands; go_simp; try with_reducible rfl)) | fail
  try simp only [Act.put, pL]
  refine wpAnyH_ready (rs := [10]) (by kernel_rfl) (by simp) ?_
  refine AllReadyH.cons rfl (fun K hK => ?_) AllReadyH.nil
  go_simp
  refine (CS2.out _ HB1.out).mono ?_
  rintro e w2 ⟨rfl, hb⟩
  have HB2 := Aside0.mk (below_then HB1.out HB1.out.size hb)
  clear hb hS
  have hS : (fun W : World => (W.cell? ⟨w.heap.size, 3, none⟩ = some (.slice (some ⟨kb1, ko1, none⟩) 2 d)) ∧ (W.cell? ⟨kb1, ko1, none⟩ = some (.int .i64 k0') ∧ W.cell? ⟨kb1, ko1 + 1, none⟩ = some (.string t0') ∧ W.cell? ⟨kb1, ko1 + 2, none⟩ = some (.slice A0' ts0'.length cc0') ∧ W.cell? ⟨kb1, ko1 + 3, none⟩ = some (.slice B0' ks0'.length d0')) ∧ (W.cell? ⟨kb1, ko1 + 4, none⟩ = some (.int .i64 k1') ∧ W.cell? ⟨kb1, ko1 + 5, none⟩ = some (.string t1') ∧ W.cell? ⟨kb1, ko1 + 6, none⟩ = some (.slice A1' ts1'.length cc1') ∧ W.cell? ⟨kb1, ko1 + 7, none⟩ = some (.slice B1' ks1'.length d1'))) w2 := HS.out _ HB2.out
  refine hK.out _ _ hS (fun _ => ?_)
  clear hK K
  try simp only [Act.put, pL]
  first | refine tkU 11 hS ?_ | (refine tkV 11 (v := ?_) hS ?_ ?_; rotate_left 1; · (intro w0 hSw; (try dsimp only at hSw); go_split_ands; go_simp; try with_reducible rfl)) | fail
  try simp only [Act.put, pL]
  first | refine tkU 12 hS ?_ | (refine tkV 12 (v := ?_) hS ?_ ?_; rotate_left 1; · (intro w0 hSw; (try dsimp only at hSw); go_split_ands; go_simp; try with_reducible rfl)) | fail
  try simp only [Act.put, pL]
  refine wpAnyH_done (by kernel_rfl) ?_ _
  go_wp2_with fail
  go_ret
  exact ⟨ret_str HW.out.symm, HB.out.trans (HB2.out.mono HB.out.size)⟩
set_option maxRecDepth 100000 in
set_option maxHeartbeats 8000000 in
theorem show_not (ts0 : List ByteArray) (h1 : 1 ≤ ts0.length) (h4 : ts0.length ≤ 4) (hi : ts0.all iriB = true) : ShowC 25 (.mk 8 ⟨#[]⟩ ts0 []) (showB (.mk 8 ⟨#[]⟩ ts0 [])) := by
  intro w ok k t A n c B m d hp
  obtain ⟨A1, c1, B1, d1, e, hc1, hd1, hd2, hts, hks⟩ := path_cells hp
  obtain ⟨wb, hwb, HB, HN⟩ := boxP w k t A n c B m d
  have HHW : Aside0 (w.alloc (.cells #[.int .i64 k, .string t, .slice A n c, .slice B m d] 25) = wb) := ⟨hwb.symm⟩
  simp only [List.cons.injEq, Value.int.injEq, Value.string.injEq, Value.slice.injEq, true_and, and_true, List.length_nil, List.length_cons, Nat.zero_add, Nat.reduceAdd] at e hc1 hd1 hd2
  obtain ⟨rfl, rfl, ⟨rfl, rfl, rfl⟩, rfl, rfl, rfl⟩ := e
  have hjl := join_len (ts0.map (·.data.toList)) (fun x hx => by
    obtain ⟨y, hy, rfl⟩ := List.mem_map.1 hx
    have := iri_size (List.all_eq_true.1 hi y hy)
    have := size_list y
    omega)
  rw [List.length_map] at hjl
  obtain ⟨x, hx⟩ : ∃ x : ByteArray, (⟨(Lib.join (ts0.map (·.data.toList)) [62, 124, 60]).toArray⟩ : ByteArray) = x := ⟨_, rfl⟩
  have hxs : x.size ≤ 2000000 := by rw [← hx, ba_size]; omega
  have HW : Aside0 (showB (.mk 8 ⟨#[]⟩ ts0 []) = (⟨#[33, 40, 60]⟩ : ByteArray) ++ x ++ (⟨#[62, 41]⟩ : ByteArray)) := ⟨by
    rw [← hx]
    apply ByteArray.ext
    rw [ByteArray.data_append, ByteArray.data_append]
    apply Array.ext'
    simp [showB, showP, showsL, glueL]⟩
  obtain ⟨hm, hts2⟩ := hts
  obtain ⟨tb, tf, rfl, -, htc⟩ := hts2 (by omega)
  have CJ : Aside0 (Calls Tryd.prog 54 #[.slice (some ⟨tb, tf, none⟩) ts0.length c, .string ⟨#[62, 124, 60]⟩] wb fun e w' => e = .returned (.string x) ∧ Below wb.heap.size wb w') := ⟨by
    have hlt : tb < w.heap.size := World.block_lt_of_cell? w _ (htc 0 _ (List.getElem?_eq_getElem (by omega)))
    have := Tryd.strings_Join tb tf c ts0 ⟨#[62, 124, 60]⟩ wb (fun j y hy => (HB.out.cell (p := ⟨tb, tf + j, none⟩) hlt).trans (htc j y hy)) (by have := HB.out.size; omega) (by omega) hc1 (by
      show (Lib.join (ts0.map (·.data.toList)) [62, 124, 60]).length ≤ _
      omega)
    rw [show ((⟨#[62, 124, 60]⟩ : ByteArray)).data.toList = [62, 124, 60] from rfl, hx] at this
    exact this⟩
  clear hwb hp htc hks hts2 hx hjl hi
  go_enter Tryd.func25, Tryd.ntmps25
  go_upto_region 1 with (fail)
  rw [HHW.out]
  have q0 := blk_cell HN.out 0; have q1 := blk_cell HN.out 1; have q2 := blk_cell HN.out 2; have q3 := blk_cell HN.out 3; simp at q0 q1 q2 q3
  go_wp2_with (go_at_call 54; (with_reducible refine CJ.out.mono ?_); rintro e w1 ⟨rfl, hb⟩; have HB1 := Aside0.mk (below_then HB.out HB.out.size hb); clear hb)
  go_ret
  exact ⟨ret_str HW.out.symm, HB1.out⟩
theorem show_any : ∀ (p : Pth) (d n : Nat), countP p d = some n → n ≤ 1000 → ShowC 25 p (showB p) := by
  intro p
  induction p using Pth.ind with
  | h k t ts ks ih =>
  intro d n h hn
  obtain ⟨hh, m, hm, rfl⟩ := count_mk h
  obtain ⟨h1, h2, h3, h4⟩ := here_kind hh
  rcases kinds_of h2 with ⟨rfl, hk⟩ | ⟨rfl, hk⟩ | ⟨rfl, hk⟩ | ⟨rfl, hk⟩ | ⟨rfl, hk⟩ | ⟨rfl, hk⟩ | ⟨rfl, hk⟩ | ⟨rfl, hk⟩
  · rw [if_pos rfl] at h3
    rw [if_neg (by decide)] at h4
    obtain rfl := List.eq_nil_of_length_eq_zero hk
    obtain rfl := List.eq_nil_of_length_eq_zero h4
    exact show_iri t h3
  · rw [if_pos rfl] at h4
    rw [if_neg (by decide)] at h3
    obtain rfl := List.eq_nil_of_length_eq_zero hk
    obtain rfl := empty_list h3
    exact show_not ts h4.1 h4.2.1 h4.2.2
  · rw [if_neg (by decide)] at h3 h4
    obtain ⟨q, rfl⟩ := list1 hk
    obtain rfl := empty_list h3
    obtain rfl := List.eq_nil_of_length_eq_zero h4
    have hl := show_len q _ _ (count_one hm)
    exact show_back q (by omega) (br_any q (by omega) (ih q (by simp) _ _ (count_one hm) (by omega)))
  · rw [if_neg (by decide)] at h3 h4
    obtain ⟨q, rfl⟩ := list1 hk
    obtain rfl := empty_list h3
    obtain rfl := List.eq_nil_of_length_eq_zero h4
    have hl := show_len q _ _ (count_one hm)
    exact show_star q (by omega) (br_any q (by omega) (ih q (by simp) _ _ (count_one hm) (by omega)))
  · rw [if_neg (by decide)] at h3 h4
    obtain ⟨q, rfl⟩ := list1 hk
    obtain rfl := empty_list h3
    obtain rfl := List.eq_nil_of_length_eq_zero h4
    have hl := show_len q _ _ (count_one hm)
    exact show_plus q (by omega) (br_any q (by omega) (ih q (by simp) _ _ (count_one hm) (by omega)))
  · rw [if_neg (by decide)] at h3 h4
    obtain ⟨q, rfl⟩ := list1 hk
    obtain rfl := empty_list h3
    obtain rfl := List.eq_nil_of_length_eq_zero h4
    have hl := show_len q _ _ (count_one hm)
    exact show_maybe q (by omega) (br_any q (by omega) (ih q (by simp) _ _ (count_one hm) (by omega)))
  · rw [if_neg (by decide)] at h3 h4
    obtain ⟨q, q2, rfl⟩ := list2 hk
    obtain ⟨a, b, ha, hb, rfl⟩ := count_two hm
    obtain rfl := empty_list h3
    obtain rfl := List.eq_nil_of_length_eq_zero h4
    have hl := show_len q _ _ ha
    have hl2 := show_len q2 _ _ hb
    exact show_seq q q2 (by omega) (by omega) (br_any q (by omega) (ih q (by simp) _ _ ha (by omega))) (br_any q2 (by omega) (ih q2 (by simp) _ _ hb (by omega)))
  · rw [if_neg (by decide)] at h3 h4
    obtain ⟨q, q2, rfl⟩ := list2 hk
    obtain ⟨a, b, ha, hb, rfl⟩ := count_two hm
    obtain rfl := empty_list h3
    obtain rfl := List.eq_nil_of_length_eq_zero h4
    have hl := show_len q _ _ ha
    have hl2 := show_len q2 _ _ hb
    exact show_alt q q2 (by omega) (by omega) (br_any q (by omega) (ih q (by simp) _ _ ha (by omega))) (br_any q2 (by omega) (ih q2 (by simp) _ _ hb (by omega)))
end Go.Proofs.YtbaegfjoionojaaDoor.Qy
