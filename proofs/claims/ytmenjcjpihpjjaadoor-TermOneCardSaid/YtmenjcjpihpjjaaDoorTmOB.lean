/- The walks of the reader's literal with a language, and with a type. -/
import Derived.Test.YtmenjcjpihpjjaaDoorTmOA
set_option linter.unusedSimpArgs false
set_option linter.unusedVariables false
namespace Go.Proofs.YtmenjcjpihpjjaaDoor.Tm
open Go Go.RowKit Go.Shelf Go.Proofs.YtmenjcjpihpjjaaDoorW.PrintWords

theorem two_set {w : World} {A : Nat} {t : TypeId} {u0 u1 u2 : Value} (h : w.heap[A]? = some (.cells #[u0, u1, u2] t (0, 0))) (v0 v2 : Value) :
    ((w.setCell ⟨A, 0, none⟩ v0).setCell ⟨A, 2, none⟩ v2).heap[A]? = some (.cells #[v0, u1, v2] t (0, 0)) :=
  blk_set (blk_set h 0 v0) 2 v2
theorem qL_plain : ∀ l : List UInt8, (∀ c ∈ l, mustB c.toNat = false) → qL l = l
  | [], _ => rfl
  | b :: c, h => by
    have e : qByte b = [b] := by unfold qByte; rw [h b (by simp)]; simp
    have ih := qL_plain c (fun x hx => h x (by simp [hx]))
    rw [show b :: c = [b] ++ c from rfl, qL_app, ih, show qL [b] = qByte b by unfold qL; simp, e]
theorem arr_size (l : List UInt8) : (⟨l.toArray⟩ : ByteArray).size = l.length := by simp [ByteArray.size]
theorem lst_size (s : ByteArray) : (lst s).length = s.size := size_list s
theorem drop_at {r : ByteArray} {a m : List UInt8} (h : r.data.toList = a ++ m) : r.extract a.length r.size = ⟨m.toArray⟩ := by
  rw [ba_lst (r.extract a.length r.size)]
  congr 2
  unfold lst
  rw [ByteArray.data_extract, Array.toList_extract, List.extract_eq_take_drop, h, List.drop_left]
  exact List.take_of_length_le (by have := size_list r; rw [h] at this; simp at this; omega)
set_option maxRecDepth 100000 in
set_option maxHeartbeats 8000000 in
theorem literal_lang (b : Nat) (s : ByteArray) (l : List UInt8) (x : ByteArray) (w : World) (hR : Rd w b s) (h : s.data.toList = qL l ++ 34 :: 64 :: lst x) (hs2 : s.size ≤ 50000) (hx : langB x = true) :
    Calls Tryd.prog 55 #[.pointer (some ⟨b, 0, none⟩)] w fun e w' => e = .returned (.agg #[.int .i64 4, .string ⟨l.toArray⟩, .string x]) ∧ Rd w' b ⟨#[]⟩ ∧ Kp w.heap.size b w w' := by
  have hbl := blk_lt hR
  obtain ⟨wa, hwa, HA⟩ : ∃ wa, wa = w.alloc (.cells #[.int .i64 0, .string ⟨#[]⟩, .string ⟨#[]⟩] 24) ∧ Aside0 (Below w.heap.size w wa) := ⟨_, rfl, ⟨below_alloc (Below.refl _ _) _⟩⟩
  have hza : wa.heap.size = w.heap.size + 1 := by rw [hwa]; simp
  have HR := Aside0.mk (hR.below HA.out)
  have HN : Aside0 (wa.heap[w.heap.size]? = some (.cells #[.int .i64 0, .string ⟨#[]⟩, .string ⟨#[]⟩] 24 (0, 0))) := ⟨by rw [hwa]; exact heap_alloc_new _ _⟩
  have CU := Aside0.mk (upTo_34 b s l (64 :: lst x) wa HR.out h hs2 (fun _ _ => trivial))
  obtain ⟨r, hr⟩ : ∃ r : ByteArray, r = ⟨(64 :: lst x).toArray⟩ := ⟨_, rfl⟩
  rw [← hr] at CU
  have hrl : r.data.toList = 64 :: lst x := by rw [hr]
  have hrs : r.size = x.size + 1 := by rw [hr, arr_size]; simp [lst_size]
  have hsr : r.size ≤ s.size := by
    have h1 := size_list s
    rw [h] at h1
    have h2 := size_list r
    rw [hrl] at h2
    simp at h1 h2
    omega
  obtain ⟨e1, he1⟩ : ∃ e1, r.extract 1 r.size = e1 := ⟨_, rfl⟩
  have HE1 : Aside0 (e1 = x) := ⟨by rw [← he1, show 1 = [(64 : UInt8)].length from rfl, drop_at (a := [64]) (m := lst x) hrl]; exact (ba_lst x).symm⟩
  have HX := Aside0.mk hx
  have hxs : x.size ≤ 16 := by unfold langB at hx; simp at hx; exact hx.2
  have gr1 : (1 : Int) ≤ (r.size : Int) := by omega
  have HXS := Aside0.mk hxs
  have CH : Aside0 (∀ W, Rd W b r → Calls Tryd.prog 52 #[.pointer (some ⟨b, 0, none⟩), .string ⟨#[64]⟩] W fun e w' => e = .returned (.bool true) ∧ w' = W) := ⟨fun W hr => by
    have := has_any b r ⟨#[64]⟩ W hr (by omega) (by decide)
    rwa [show hasB r ⟨#[64]⟩ = true by rw [has_eq, hrl, decide_eq_true (show (⟨#[64]⟩ : ByteArray).size ≤ r.size by show 1 ≤ r.size; omega)]; rfl] at this⟩
  clear hx hrs hsr hxs
  have HWA := Aside0.mk hwa
  have HZA := Aside0.mk hza
  clear hR h HR hwa hza hr hrl
  go_enter Tryd.func55, Tryd.ntmps55
  go_upto_region 2 with (go_at_call 53; rw [← HWA.out]; (with_reducible refine CU.out.mono ?_); rintro e w1 ⟨rfl, hr, hk⟩; have HR1 := Aside0.mk hr; have HK1 := Aside0.mk hk; clear hr hk)
  obtain ⟨wt, hwt, HT⟩ := boxT w1 3 ⟨l.toArray⟩ ⟨#[]⟩
  rw [← hwt]
  have hn1 : w1.heap[w.heap.size]? = some (.cells #[.int .i64 0, .string ⟨#[]⟩, .string ⟨#[]⟩] 24 (0, 0)) := (HK1.out.2 w.heap.size (by rw [HZA.out]; omega) (by omega)).trans HN.out
  have HNT : Aside0 (wt.heap[w.heap.size]? = some (.cells #[.int .i64 0, .string ⟨#[]⟩, .string ⟨#[]⟩] 24 (0, 0))) := ⟨(HT.out.block _ (blk_lt hn1)).trans hn1⟩
  have HTT : Aside0 (wt.heap[w1.heap.size]? = some (.cells #[.int .i64 3, .string ⟨l.toArray⟩, .string ⟨#[]⟩] 24 (0, 0))) := ⟨by rw [hwt]; exact heap_alloc_new _ _⟩
  have HRt := Aside0.mk (HR1.out.below HT.out)
  have HKt : Aside0 (Kp w.heap.size b w wt) := ⟨(HA.out.mono (by omega)).trans ((HK1.out.1).trans (HT.out.mono (by have := HK1.out.1.size; have := HA.out.size; omega))), fun i hi hn => (HT.out.block i (by have := HK1.out.1.size; have := HA.out.size; omega)).trans ((HK1.out.2 i (by have := HA.out.size; omega) hn).trans (HA.out.block i hi))⟩
  have hzt : wt.heap.size = w1.heap.size + 1 := by rw [hwt]; simp
  have hz1 : w.heap.size + 1 ≤ w1.heap.size := by have := HK1.out.1.size; rw [HZA.out] at this; exact this
  obtain ⟨r0, r1, rf⟩ := HRt.out.cells
  obtain ⟨T, hT⟩ : ∃ T, w1.heap.size = T := ⟨_, rfl⟩
  rw [hT] at HTT hzt hz1
  rw [hT]
  have HZ := Aside0.mk hzt
  have HZ1 := Aside0.mk hz1
  clear hwt hn1 hzt hz1 hT
  go_upto_region 4 with (go_at_call 52; first
    | ((with_reducible refine (CH.out _ HRt.out).mono ?_); rintro e w2 ⟨rfl, rfl⟩))
  obtain ⟨wd, hwd⟩ : ∃ wd, wd = w2.setCell ⟨b, 0, none⟩ (.string e1) := ⟨_, rfl⟩
  have HRd : Aside0 (Rd wd b e1) := ⟨by rw [hwd]; exact HRt.out.set e1⟩
  have HKd : Aside0 (Kp w.heap.size b w wd) := ⟨by rw [hwd]; exact HKt.out.set _⟩
  have HNd : Aside0 (wd.heap[w.heap.size]? = some (.cells #[.int .i64 0, .string ⟨#[]⟩, .string ⟨#[]⟩] 24 (0, 0))) := ⟨by rw [hwd]; exact blk_far HNT.out (by show w.heap.size ≠ b; omega) _⟩
  have HTd : Aside0 (wd.heap[T]? = some (.cells #[.int .i64 3, .string ⟨l.toArray⟩, .string ⟨#[]⟩] 24 (0, 0))) := ⟨by rw [hwd]; exact blk_far HTT.out (by have := HZ1.out; show T ≠ b; omega) _⟩
  have HZd : Aside0 (wd.heap.size = T + 1) := ⟨by rw [hwd, ← HZ.out]; simp [World.setCell]⟩
  rw [← hwd]
  have CR := Aside0.mk (run_all b e1 true wd HRd.out (by rw [HE1.out]; have := HXS.out; omega) (by
    intro i hi
    rw [HE1.out] at hi ⊢
    have hm := lang_bytes HX.out _ (List.mem_of_getElem? (byteAt_get x i hi))
    unfold langSign at hm
    unfold byteAt alnumB letterB
    simp only [Bool.or_eq_true, beq_iff_eq] at hm ⊢
    rcases hm with (hm | hm) | hm
    · exact .inl (.inl (.inl hm))
    · exact .inl (.inr hm)
    · exact .inr ⟨by first | trivial | rfl, by rw [hm]; rfl⟩))
  have CS := Aside0.mk (fun W => small_same x W (by have := HXS.out; omega) (by
    intro c hc
    have hm := lang_bytes HX.out c hc
    unfold langSign smallB digitB at hm
    simp at hm
    rcases hm with hm | hm
    · omega
    · subst hm; decide))
  rw [HE1.out] at CR
  clear hwd r0 r1 rf
  go_upto_region 8 with (first
    | (go_at_call 54; (with_reducible refine CR.out.mono ?_); rintro e w4 ⟨rfl, hr, hk⟩; have HR4 := Aside0.mk hr; have HK4 := Aside0.mk hk; clear hr hk)
    | (go_at_call 75; (with_reducible refine (CS.out _).mono ?_); rintro e w5 ⟨rfl, hb5⟩; have HN4 := Aside0.mk ((HK4.out.2 w.heap.size (by have := HZ1.out; rw [HZd.out]; omega) (by omega)).trans HNd.out); have HT4 := Aside0.mk ((HK4.out.2 T (by rw [HZd.out]; omega) (by have := HZ1.out; omega)).trans HTd.out); have HR5 := Aside0.mk (HR4.out.below hb5); have HK5 := Aside0.mk ((HKd.out.trans ⟨HK4.out.1, fun i hi hn => HK4.out.2 i (by have := HZ1.out; rw [HZd.out]; omega) hn⟩).below (by have := HK4.out.1.size; have := HZ1.out; have := HZd.out; omega) hb5 hbl); have HN5 := Aside0.mk ((hb5.block _ (blk_lt HN4.out)).trans HN4.out); have HT5 := Aside0.mk ((hb5.block _ (blk_lt HT4.out)).trans HT4.out); have g0 := blk_cell HT5.out 0; have g1 := blk_cell HT5.out 1; have g2 := blk_cell HT5.out 2; simp at g0 g1 g2; have q0 := blk_frozen HT5.out 0; have q1 := blk_frozen HT5.out 1; have q2 := blk_frozen HT5.out 2; clear hb5))
  clear g0 g1 g2 q0 q1 q2
  have hf := two_set HT5.out (.int .i64 4) (.string x)
  have HR6 : Aside0 (Rd _ b ⟨#[]⟩) := ⟨(HR5.out.far (p := ⟨T, 0, none⟩) (by have := HZ1.out; show b ≠ T; omega) (.int .i64 4)).far (p := ⟨T, 2, none⟩) (by have := HZ1.out; show b ≠ T; omega) (.string x)⟩
  have HK6 : Aside0 (Kp w.heap.size b w _) := ⟨(HK5.out.far hbl (p := ⟨T, 0, none⟩) (by have := HZ1.out; show w.heap.size ≤ T; omega) (.int .i64 4)).far hbl (p := ⟨T, 2, none⟩) (by have := HZ1.out; show w.heap.size ≤ T; omega) (.string x)⟩
  have HN6 := Aside0.mk (blk_far (p := ⟨T, 2, none⟩) (blk_far (p := ⟨T, 0, none⟩) HN5.out (by have := HZ1.out; show w.heap.size ≠ T; omega) (.int .i64 4)) (by have := HZ1.out; show w.heap.size ≠ T; omega) (.string x))
  generalize (w5.setCell ⟨T, 0, none⟩ (.int .i64 4)).setCell ⟨T, 2, none⟩ (.string x) = w6 at hf HR6 HK6 HN6 ⊢
  have p0 := blk_cell hf 0
  have p1 := blk_cell hf 1
  have p2 := blk_cell hf 2
  have f0 := blk_frozen HN6.out 0
  have f1 := blk_frozen HN6.out 1
  have f2 := blk_frozen HN6.out 2
  have n0 := blk_cell HN6.out 0
  have n1 := blk_cell HN6.out 1
  have n2 := blk_cell HN6.out 2
  simp at n0 n1 n2 p0 p1 p2
  clear hf
  go_wp2_with fail
  have hf := three_set HN6.out (.int .i64 4) (.string ⟨l.toArray⟩) (.string x)
  have HRf : Aside0 (Rd _ b ⟨#[]⟩) := ⟨((HR6.out.far (p := ⟨w.heap.size, 0, none⟩) (by show b ≠ w.heap.size; omega) (.int .i64 4)).far (p := ⟨w.heap.size, 1, none⟩) (by show b ≠ w.heap.size; omega) (.string ⟨l.toArray⟩)).far (p := ⟨w.heap.size, 2, none⟩) (by show b ≠ w.heap.size; omega) (.string x)⟩
  have HKf : Aside0 (Kp w.heap.size b w _) := ⟨((HK6.out.far hbl (p := ⟨w.heap.size, 0, none⟩) (Nat.le_refl _) (.int .i64 4)).far hbl (p := ⟨w.heap.size, 1, none⟩) (Nat.le_refl _) (.string ⟨l.toArray⟩)).far hbl (p := ⟨w.heap.size, 2, none⟩) (Nat.le_refl _) (.string x)⟩
  generalize ((w6.setCell ⟨w.heap.size, 0, none⟩ (.int .i64 4)).setCell ⟨w.heap.size, 1, none⟩ (.string ⟨l.toArray⟩)).setCell ⟨w.heap.size, 2, none⟩ (.string x) = wf at hf HRf HKf ⊢
  have z0 := blk_cell hf 0
  have z1 := blk_cell hf 1
  have z2 := blk_cell hf 2
  simp at z0 z1 z2
  clear hf
  refine bodyPost_ret (by simp [results, Tryd.results55, go_sem, z0, z1, z2]; try rfl) rfl ?_
  exact ⟨rfl, HRf.out, HKf.out⟩
set_option maxRecDepth 100000 in
set_option maxHeartbeats 8000000 in
theorem literal_typed (b : Nat) (s : ByteArray) (l : List UInt8) (x : ByteArray) (w : World) (hR : Rd w b s) (h : s.data.toList = qL l ++ 34 :: 94 :: 94 :: 60 :: (lst x ++ [62])) (hs2 : s.size ≤ 50000) (hx : iriB x = true) :
    Calls Tryd.prog 55 #[.pointer (some ⟨b, 0, none⟩)] w fun e w' => e = .returned (.agg #[.int .i64 5, .string ⟨l.toArray⟩, .string x]) ∧ Rd w' b ⟨#[]⟩ ∧ Kp w.heap.size b w w' := by
  have hbl := blk_lt hR
  obtain ⟨wa, hwa, HA⟩ : ∃ wa, wa = w.alloc (.cells #[.int .i64 0, .string ⟨#[]⟩, .string ⟨#[]⟩] 24) ∧ Aside0 (Below w.heap.size w wa) := ⟨_, rfl, ⟨below_alloc (Below.refl _ _) _⟩⟩
  have hza : wa.heap.size = w.heap.size + 1 := by rw [hwa]; simp
  have HR := Aside0.mk (hR.below HA.out)
  have HN : Aside0 (wa.heap[w.heap.size]? = some (.cells #[.int .i64 0, .string ⟨#[]⟩, .string ⟨#[]⟩] 24 (0, 0))) := ⟨by rw [hwa]; exact heap_alloc_new _ _⟩
  have CU := Aside0.mk (upTo_34 b s l (94 :: 94 :: 60 :: (lst x ++ [62])) wa HR.out h hs2 (fun _ _ => trivial))
  obtain ⟨r, hr⟩ : ∃ r : ByteArray, r = ⟨(94 :: 94 :: 60 :: (lst x ++ [62])).toArray⟩ := ⟨_, rfl⟩
  rw [← hr] at CU
  have hrl : r.data.toList = 94 :: 94 :: 60 :: (lst x ++ [62]) := by rw [hr]
  have hrs : r.size = x.size + 4 := by rw [hr, arr_size]; simp [lst_size]
  have hsr : r.size ≤ s.size := by
    have h1 := size_list s
    rw [h] at h1
    have h2 := size_list r
    rw [hrl] at h2
    simp at h1 h2
    omega
  obtain ⟨e1, he1⟩ : ∃ e1, r.extract 3 r.size = e1 := ⟨_, rfl⟩
  have HE1 : Aside0 (e1.data.toList = qL (lst x) ++ 62 :: []) := ⟨by
    rw [← he1, show 3 = [(94 : UInt8), 94, 60].length from rfl, drop_at (a := [94, 94, 60]) (m := lst x ++ [62]) hrl, qL_plain (lst x) (fun c hc => (iri_bytes hx c hc).1)]⟩
  have hes : e1.size ≤ 50000 := by rw [← he1, ByteArray.size_extract]; omega
  have HES := Aside0.mk hes
  have HX := Aside0.mk hx
  have gr1 : (3 : Int) ≤ (r.size : Int) := by omega
  have CH0 : Aside0 (∀ W, Rd W b r → Calls Tryd.prog 52 #[.pointer (some ⟨b, 0, none⟩), .string ⟨#[64]⟩] W fun e w' => e = .returned (.bool false) ∧ w' = W) := ⟨fun W hr => by
    have := has_any b r ⟨#[64]⟩ W hr (by omega) (by decide)
    rwa [show hasB r ⟨#[64]⟩ = false by rw [has_eq, hrl, Bool.and_eq_false_iff]; right; rfl] at this⟩
  have CH : Aside0 (∀ W, Rd W b r → Calls Tryd.prog 52 #[.pointer (some ⟨b, 0, none⟩), .string ⟨#[94, 94, 60]⟩] W fun e w' => e = .returned (.bool true) ∧ w' = W) := ⟨fun W hr => by
    have := has_any b r ⟨#[94, 94, 60]⟩ W hr (by omega) (by decide)
    rwa [show hasB r ⟨#[94, 94, 60]⟩ = true by rw [has_eq, hrl, decide_eq_true (show (⟨#[94, 94, 60]⟩ : ByteArray).size ≤ r.size by show 3 ≤ r.size; omega)]; rfl] at this⟩
  clear hx hrs hsr hes
  have HWA := Aside0.mk hwa
  have HZA := Aside0.mk hza
  clear hR h HR hwa hza hr hrl
  go_enter Tryd.func55, Tryd.ntmps55
  go_upto_region 2 with (go_at_call 53; rw [← HWA.out]; (with_reducible refine CU.out.mono ?_); rintro e w1 ⟨rfl, hr, hk⟩; have HR1 := Aside0.mk hr; have HK1 := Aside0.mk hk; clear hr hk)
  obtain ⟨wt, hwt, HT⟩ := boxT w1 3 ⟨l.toArray⟩ ⟨#[]⟩
  rw [← hwt]
  have hn1 : w1.heap[w.heap.size]? = some (.cells #[.int .i64 0, .string ⟨#[]⟩, .string ⟨#[]⟩] 24 (0, 0)) := (HK1.out.2 w.heap.size (by rw [HZA.out]; omega) (by omega)).trans HN.out
  have HNT : Aside0 (wt.heap[w.heap.size]? = some (.cells #[.int .i64 0, .string ⟨#[]⟩, .string ⟨#[]⟩] 24 (0, 0))) := ⟨(HT.out.block _ (blk_lt hn1)).trans hn1⟩
  have HTT : Aside0 (wt.heap[w1.heap.size]? = some (.cells #[.int .i64 3, .string ⟨l.toArray⟩, .string ⟨#[]⟩] 24 (0, 0))) := ⟨by rw [hwt]; exact heap_alloc_new _ _⟩
  have HRt := Aside0.mk (HR1.out.below HT.out)
  have HKt : Aside0 (Kp w.heap.size b w wt) := ⟨(HA.out.mono (by omega)).trans ((HK1.out.1).trans (HT.out.mono (by have := HK1.out.1.size; have := HA.out.size; omega))), fun i hi hn => (HT.out.block i (by have := HK1.out.1.size; have := HA.out.size; omega)).trans ((HK1.out.2 i (by have := HA.out.size; omega) hn).trans (HA.out.block i hi))⟩
  have hzt : wt.heap.size = w1.heap.size + 1 := by rw [hwt]; simp
  have hz1 : w.heap.size + 1 ≤ w1.heap.size := by have := HK1.out.1.size; rw [HZA.out] at this; exact this
  obtain ⟨r0, r1, rf⟩ := HRt.out.cells
  obtain ⟨T, hT⟩ : ∃ T, w1.heap.size = T := ⟨_, rfl⟩
  rw [hT] at HTT hzt hz1
  rw [hT]
  have HZ := Aside0.mk hzt
  have HZ1 := Aside0.mk hz1
  clear hwt hn1 hzt hz1 hT
  go_upto_region 7 with (go_at_call 52; first
    | ((with_reducible refine (CH0.out _ HRt.out).mono ?_); rintro e w2 ⟨rfl, rfl⟩)
    | ((with_reducible refine (CH.out _ HRt.out).mono ?_); rintro e w2 ⟨rfl, rfl⟩))
  obtain ⟨wd, hwd⟩ : ∃ wd, wd = w2.setCell ⟨b, 0, none⟩ (.string e1) := ⟨_, rfl⟩
  have HRd : Aside0 (Rd wd b e1) := ⟨by rw [hwd]; exact HRt.out.set e1⟩
  have HKd : Aside0 (Kp w.heap.size b w wd) := ⟨by rw [hwd]; exact HKt.out.set _⟩
  have HNd : Aside0 (wd.heap[w.heap.size]? = some (.cells #[.int .i64 0, .string ⟨#[]⟩, .string ⟨#[]⟩] 24 (0, 0))) := ⟨by rw [hwd]; exact blk_far HNT.out (by show w.heap.size ≠ b; omega) _⟩
  have HTd : Aside0 (wd.heap[T]? = some (.cells #[.int .i64 3, .string ⟨l.toArray⟩, .string ⟨#[]⟩] 24 (0, 0))) := ⟨by rw [hwd]; exact blk_far HTT.out (by have := HZ1.out; show T ≠ b; omega) _⟩
  have HZd : Aside0 (wd.heap.size = T + 1) := ⟨by rw [hwd, ← HZ.out]; simp [World.setCell]⟩
  rw [← hwd]
  have CR := Aside0.mk (upTo_62 b e1 (lst x) [] wd HRd.out HE1.out HES.out (fun c hc => iri_bytes HX.out c hc))
  rw [← ba_lst x] at CR
  clear hwd r0 r1 rf
  go_upto_region 8 with (first
    | (go_at_call 53; (with_reducible refine CR.out.mono ?_); rintro e w5 ⟨rfl, hr, hk⟩; have HR5 := Aside0.mk hr; have HK5 := Aside0.mk (HKd.out.trans ⟨hk.1, fun i hi hn => hk.2 i (by have := HZ1.out; rw [HZd.out]; omega) hn⟩); have HN5 := Aside0.mk ((hk.2 w.heap.size (by have := HZ1.out; rw [HZd.out]; omega) (by omega)).trans HNd.out); have HT5 := Aside0.mk ((hk.2 T (by rw [HZd.out]; omega) (by have := HZ1.out; omega)).trans HTd.out); have g0 := blk_cell HT5.out 0; have g1 := blk_cell HT5.out 1; have g2 := blk_cell HT5.out 2; simp at g0 g1 g2; have q0 := blk_frozen HT5.out 0; have q1 := blk_frozen HT5.out 1; have q2 := blk_frozen HT5.out 2; clear hr hk))
  clear g0 g1 g2 q0 q1 q2
  have hf := two_set HT5.out (.int .i64 5) (.string x)
  have HR6 : Aside0 (Rd _ b ⟨#[]⟩) := ⟨(HR5.out.far (p := ⟨T, 0, none⟩) (by have := HZ1.out; show b ≠ T; omega) (.int .i64 5)).far (p := ⟨T, 2, none⟩) (by have := HZ1.out; show b ≠ T; omega) (.string x)⟩
  have HK6 : Aside0 (Kp w.heap.size b w _) := ⟨(HK5.out.far hbl (p := ⟨T, 0, none⟩) (by have := HZ1.out; show w.heap.size ≤ T; omega) (.int .i64 5)).far hbl (p := ⟨T, 2, none⟩) (by have := HZ1.out; show w.heap.size ≤ T; omega) (.string x)⟩
  have HN6 := Aside0.mk (blk_far (p := ⟨T, 2, none⟩) (blk_far (p := ⟨T, 0, none⟩) HN5.out (by have := HZ1.out; show w.heap.size ≠ T; omega) (.int .i64 5)) (by have := HZ1.out; show w.heap.size ≠ T; omega) (.string x))
  generalize (w5.setCell ⟨T, 0, none⟩ (.int .i64 5)).setCell ⟨T, 2, none⟩ (.string x) = w6 at hf HR6 HK6 HN6 ⊢
  have p0 := blk_cell hf 0
  have p1 := blk_cell hf 1
  have p2 := blk_cell hf 2
  have f0 := blk_frozen HN6.out 0
  have f1 := blk_frozen HN6.out 1
  have f2 := blk_frozen HN6.out 2
  have n0 := blk_cell HN6.out 0
  have n1 := blk_cell HN6.out 1
  have n2 := blk_cell HN6.out 2
  simp at n0 n1 n2 p0 p1 p2
  clear hf
  go_wp2_with fail
  have hf := three_set HN6.out (.int .i64 5) (.string ⟨l.toArray⟩) (.string x)
  have HRf : Aside0 (Rd _ b ⟨#[]⟩) := ⟨((HR6.out.far (p := ⟨w.heap.size, 0, none⟩) (by show b ≠ w.heap.size; omega) (.int .i64 5)).far (p := ⟨w.heap.size, 1, none⟩) (by show b ≠ w.heap.size; omega) (.string ⟨l.toArray⟩)).far (p := ⟨w.heap.size, 2, none⟩) (by show b ≠ w.heap.size; omega) (.string x)⟩
  have HKf : Aside0 (Kp w.heap.size b w _) := ⟨((HK6.out.far hbl (p := ⟨w.heap.size, 0, none⟩) (Nat.le_refl _) (.int .i64 5)).far hbl (p := ⟨w.heap.size, 1, none⟩) (Nat.le_refl _) (.string ⟨l.toArray⟩)).far hbl (p := ⟨w.heap.size, 2, none⟩) (Nat.le_refl _) (.string x)⟩
  generalize ((w6.setCell ⟨w.heap.size, 0, none⟩ (.int .i64 5)).setCell ⟨w.heap.size, 1, none⟩ (.string ⟨l.toArray⟩)).setCell ⟨w.heap.size, 2, none⟩ (.string x) = wf at hf HRf HKf ⊢
  have z0 := blk_cell hf 0
  have z1 := blk_cell hf 1
  have z2 := blk_cell hf 2
  simp at z0 z1 z2
  clear hf
  refine bodyPost_ret (by simp [results, Tryd.results55, go_sem, z0, z1, z2]; try rfl) rfl ?_
  exact ⟨rfl, HRf.out, HKf.out⟩
end Go.Proofs.YtmenjcjpihpjjaaDoor.Tm
