/- The walks of the program's reader: iri. -/
import Derived.Test.YtbaegfjoionojaaDoorQyA
set_option linter.unusedSimpArgs false
set_option linter.unusedVariables false
namespace Go.Proofs.YtbaegfjoionojaaDoor.Qy
open Go Go.RowKit Go.Proofs.YtbaegfjoionojaaDoor.Tm Go.Proofs.YtbaegfjoionojaaDoorW.PrintWords

theorem ext_tail (s : ByteArray) (i : Nat) : (s.extract i s.size).data.toList = s.data.toList.drop i := by
  rw [ByteArray.data_extract, Array.toList_extract, List.extract_eq_take_drop]
  exact List.take_of_length_le (by rw [List.length_drop]; have := size_list s; omega)
theorem ext_mid (s : ByteArray) (i k : Nat) : (s.extract i k).data.toList = (s.data.toList.drop i).take (k - i) := by
  rw [ByteArray.data_extract, Array.toList_extract, List.extract_eq_take_drop]
theorem drop_get (s : ByteArray) (k : Nat) (h : k < s.size) : s.data.toList.drop k = s[k] :: s.data.toList.drop (k + 1) :=
  List.drop_eq_getElem_cons (by simpa using h)
theorem idx_find (s : ByteArray) (c : UInt8) : ∀ f i, i + f = s.size → Lib.index (s.data.toList.drop i) [c] = match findF s c.toNat f i with
    | some k => ((k - i : Nat) : Int)
    | none => -1
  | 0, i, h => by
    rw [List.drop_eq_nil_of_le (by have := size_list s; omega)]
    rfl
  | f + 1, i, h => by
    have hi : i < s.size := by omega
    have ih := idx_find s c f (i + 1) (by omega)
    rw [drop_get s i hi]
    unfold Lib.index findF
    have hg := get_byte s i hi
    by_cases hb : byteAt s i = c.toNat
    · have e : s[i] = c := UInt8.toNat_inj.1 (hg.trans hb)
      rw [if_pos hb, e]
      simp
    · have e : s[i] ≠ c := fun h => hb (by rw [← hg, h])
      have e2 : ([c].isPrefixOf (s[i] :: s.data.toList.drop (i + 1))) = false := by
        simp [List.isPrefixOf]
        exact fun h => e h.symm
      rw [e2, if_neg hb, ih]
      simp only [Bool.false_eq_true, if_false]
      cases hf : findF s c.toNat f (i + 1) with
      | none => simp
      | some k =>
        obtain ⟨h1, h2, h3⟩ := findF_facts s c.toNat f (i + 1) k hf
        have : (((k - (i + 1) : Nat) : Int) == -1) = false := by rw [beq_eq_false_iff_ne]; omega
        simp only [this]
        simp only [Bool.false_eq_true, if_false]
        omega
theorem cut_some {s : ByteArray} {i k : Nat} (hi : i ≤ s.size) (h : findC s 62 i = some k) :
    (⟨(Lib.cut (s.extract i s.size).data.toList (⟨#[62]⟩ : ByteArray).data.toList).1.toArray⟩ : ByteArray) = s.extract i k ∧ (Lib.cut (s.extract i s.size).data.toList (⟨#[62]⟩ : ByteArray).data.toList).2.2 = true := by
  have e := idx_find s 62 (s.size - i) i (by omega)
  rw [show findF s (62 : UInt8).toNat (s.size - i) i = some k from h] at e
  simp only at e
  rw [ext_tail, show (⟨#[62]⟩ : ByteArray).data.toList = [62] from rfl]
  unfold Lib.cut
  rw [e, if_pos (by omega)]
  refine ⟨?_, rfl⟩
  apply ByteArray.ext
  apply Array.ext'
  rw [ext_mid]
  simp
theorem cut_none {s : ByteArray} {i : Nat} (hi : i ≤ s.size) (h : findC s 62 i = none) :
    (Lib.cut (s.extract i s.size).data.toList (⟨#[62]⟩ : ByteArray).data.toList).2.2 = false := by
  have e := idx_find s 62 (s.size - i) i (by omega)
  rw [show findF s (62 : UInt8).toNat (s.size - i) i = none from h] at e
  simp only at e
  rw [ext_tail, show (⟨#[62]⟩ : ByteArray).data.toList = [62] from rfl]
  unfold Lib.cut
  rw [e, if_neg (by omega)]
theorem Tabs.drewN {w : World} (h : Tabs w) (n : Nat) : Tabs (w.drewN n) := h.below (pw_below_drewN (Below.refl _ _) n)
/-- strings.Cut at a closing sign, behind draws. -/
theorem cut_q (tl x y : ByteArray) (f : Bool) (w : World) (hT : Tabs w) (hs : tl.size ≤ 50000) (hx : (⟨(Lib.cut tl.data.toList (⟨#[62]⟩ : ByteArray).data.toList).1.toArray⟩ : ByteArray) = x) (hy : (⟨(Lib.cut tl.data.toList (⟨#[62]⟩ : ByteArray).data.toList).2.1.toArray⟩ : ByteArray) = y) (hf : (Lib.cut tl.data.toList (⟨#[62]⟩ : ByteArray).data.toList).2.2 = f) (n : Nat) :
    Calls Tryd.prog 172 #[.string tl, .string ⟨#[62]⟩] (w.drewN n) fun e w' => e = .returned (.tuple #[.string x, .string y, .bool f]) ∧ ∃ m, w' = (w.drewN n).drewN m := by
  obtain ⟨-, m, hm⟩ := Tabs.drewN hT n
  have := Tryd.strings_Cut tl ⟨#[62]⟩ m (w.drewN n) (by omega) hm
  rw [hx, hy, hf] at this
  exact this
set_option maxRecDepth 100000 in
set_option maxHeartbeats 4000000 in
theorem iri_yes (b : Nat) (s : ByteArray) (i o : Nat) (w0 w : World) (t : ByteArray) (k : Nat) (hR : Rq w b s i 0 o) (hs : s.size ≤ 50000) (hi : i ≤ s.size) (hT : Tabs w0) (hB : Below w0.heap.size w0 w) (hb : w0.heap.size ≤ b) (hn : nx s i = 60) (hf : findC s 62 (skip s i + 1) = some k) (ht : s.extract (skip s i + 1) k = t) (hok : iriB t = true) :
    Calls Tryd.prog 164 #[.pointer (some ⟨b, 0, none⟩)] w fun e w' => e = .returned (.string t) ∧ Rq w' b s (k + 1) 0 o ∧ Kb b w w' := by
  have hbl := blk_lt hR
  have hx := nx_in (s := s) (i := i) (by rw [hn]; decide)
  have CN := Aside0.mk (next_ok b s i o w hR hs hi)
  rw [hn] at CN
  obtain ⟨j, hj⟩ : ∃ j, skip s i = j := ⟨_, rfl⟩
  rw [hj] at hx CN hf ht
  have hff := find_facts hf
  have hs3 : (s.size : Int) ≤ 50000 := by omega
  have g1 : (j : Int) + 1 ≤ (s.size : Int) := by omega
  obtain ⟨tl, htl⟩ : ∃ tl, s.extract (j + 1) s.size = tl := ⟨_, rfl⟩
  have htz : tl.size ≤ 50000 := by rw [← htl, ByteArray.size_extract]; omega
  obtain ⟨hc1, hc2⟩ := cut_some (s := s) (i := j + 1) (by omega) hf
  rw [ht, htl] at hc1
  rw [htl] at hc2
  obtain ⟨y, hy⟩ : ∃ y, (⟨(Lib.cut tl.data.toList (⟨#[62]⟩ : ByteArray).data.toList).2.1.toArray⟩ : ByteArray) = y := ⟨_, rfl⟩
  have CC := Aside0.mk (fun W (hT : Tabs W) (n : Nat) => cut_q tl t y true W hT htz hc1 hy hc2 n)
  have htsz : t.size + (j + 1) = k := by rw [← ht, ByteArray.size_extract]; omega
  have CI : Aside0 (∀ W, Tabs W → Calls Tryd.prog 117 #[.string t] W fun e w' => e = .returned (.bool true) ∧ Below W.heap.size W w') := ⟨fun W h => by
    have := iri_any t W (by omega) h
    rwa [hok] at this⟩
  have hk2 : (k : Int) + 1 ≤ 50000 := by omega
  have hk3 : (k : Int) = (t.size : Int) + ((j : Int) + 1) := by omega
  have HK3 := Aside0.mk hk3
  have hts : (t.size : Int) ≤ 50000 := by omega
  clear hR hn hx hf ht hok hc1 hc2 hy hff hj htsz hk3
  go_enter Tryd.func164, Tryd.ntmps164
  go_upto_region 4 with (go_at_call 56; (with_reducible refine CN.out.mono ?_); rintro e w1 ⟨rfl, hr, hk⟩; have HR1 := Aside0.mk hr; have HK1 := Aside0.mk hk; obtain ⟨c0, c1, c2, c3, f1, f2, f3⟩ := hr.cells; have HT1 := Aside0.mk (hT.below (hB.trans (hk.1.mono hb))); clear hr hk)
  have QC := Aside0.mk (CC.out w1 HT1.out)
  go_quiet (first
    | (go_at_call 172; exact Calls.quiet_of (QC.out _)))
  have HT2 := Aside0.mk (Tabs.drewN HT1.out nq)
  have HR2 : Aside0 (Rq (w1.drewN nq) b s j 0 o) := ⟨HR1.out⟩
  have HK2 := Aside0.mk (HK1.out.trans (Kb.drewN w1 nq))
  generalize w1.drewN nq = w2 at HT2 HR2 HK2 ⊢
  clear c0 c1 c2 c3 f1 f2 f3
  go_wp2_with (go_at_call 117; (with_reducible refine (CI.out _ HT2.out).mono ?_); rintro e w3 ⟨rfl, hbl3⟩; have HR3 := Aside0.mk (HR2.out.below hbl3); have HK3' := Aside0.mk (HK2.out.trans (Kb.of hbl3 (by have := HK2.out.size; omega))); obtain ⟨c0, c1, c2, c3, f1, f2, f3⟩ := HR3.out.cells; clear hbl3)
  go_ret
  exact ⟨rfl, Rq.to HR3.out (k + 1) _ (by have := HK3.out; first | omega | (push_cast; omega)), HK3'.out.trans (Kb.set _ _ _)⟩
set_option maxRecDepth 100000 in
set_option maxHeartbeats 4000000 in
theorem iri_no1 (b : Nat) (s : ByteArray) (i o : Nat) (w : World) (hR : Rq w b s i 0 o) (hs : s.size ≤ 50000) (hi : i ≤ s.size) (hn : nx s i ≠ 60) :
    Calls Tryd.prog 164 #[.pointer (some ⟨b, 0, none⟩)] w fun e w' => e = .returned (.string ⟨#[]⟩) ∧ Rq w' b s (skip s i) 2 (skip s i) ∧ Kb b w w' := by
  have CN := Aside0.mk (next_ok b s i o w hR hs hi)
  have CF := Aside0.mk (fun W h => fails_ok b s (skip s i) o (skip s i) 0 2 W h)
  obtain ⟨x, hx⟩ : ∃ x, nx s i = x := ⟨_, rfl⟩
  rw [hx] at hn CN
  obtain ⟨j, hj⟩ : ∃ j, skip s i = j := ⟨_, rfl⟩
  rw [hj] at CN CF ⊢
  have hne : ((x : Int) != 60) = true := by rw [bne_iff_ne]; omega
  clear hR hn hx hj
  go_enter Tryd.func164, Tryd.ntmps164
  go_wp2_with (first
    | (go_at_call 56; (with_reducible refine CN.out.mono ?_); rintro e w1 ⟨rfl, hr, hk⟩; have HR1 := Aside0.mk hr; have HK1 := Aside0.mk hk; obtain ⟨c0, c1, c2, c3, f1, f2, f3⟩ := hr.cells; clear hr hk)
    | (go_at_call 57; (with_reducible refine (CF.out _ HR1.out).mono ?_); rintro e w2 ⟨rfl, hr, hk⟩; have HR2 := Aside0.mk hr; have HK2 := Aside0.mk hk; clear hr hk))
  go_ret
  exact ⟨rfl, HR2.out, HK1.out.trans HK2.out⟩
set_option maxRecDepth 100000 in
set_option maxHeartbeats 4000000 in
theorem iri_err (b : Nat) (s : ByteArray) (i o : Nat) (er : Int) (w : World) (hR : Rq w b s i er o) (he : er ≠ 0) :
    Calls Tryd.prog 164 #[.pointer (some ⟨b, 0, none⟩)] w fun e w' => e = .returned (.string ⟨#[]⟩) ∧ Rq w' b s i er o ∧ Kb b w w' := by
  have CN := Aside0.mk (next_err b s i o er w hR he)
  have CF := Aside0.mk (fun W h => fails_err b s i o i er 2 W h he)
  clear hR he
  go_enter Tryd.func164, Tryd.ntmps164
  go_wp2_with (first
    | (go_at_call 56; (with_reducible refine CN.out.mono ?_); rintro e w1 ⟨rfl, hr, hk⟩; have HR1 := Aside0.mk hr; have HK1 := Aside0.mk hk; obtain ⟨c0, c1, c2, c3, f1, f2, f3⟩ := hr.cells; clear hr hk)
    | (go_at_call 57; (with_reducible refine (CF.out _ HR1.out).mono ?_); rintro e w2 ⟨rfl, hr, hk⟩; have HR2 := Aside0.mk hr; have HK2 := Aside0.mk hk; clear hr hk))
  go_ret
  exact ⟨rfl, HR2.out, HK1.out.trans HK2.out⟩
set_option maxRecDepth 100000 in
set_option maxHeartbeats 4000000 in
theorem iri_no2 (b : Nat) (s : ByteArray) (i o : Nat) (w0 w : World) (t : ByteArray) (f : Bool) (hR : Rq w b s i 0 o) (hs : s.size ≤ 50000) (hi : i ≤ s.size) (hT : Tabs w0) (hB : Below w0.heap.size w0 w) (hb : w0.heap.size ≤ b) (hn : nx s i = 60)
    (hx1 : (⟨(Lib.cut (s.extract (skip s i + 1) s.size).data.toList (⟨#[62]⟩ : ByteArray).data.toList).1.toArray⟩ : ByteArray) = t) (hx2 : (Lib.cut (s.extract (skip s i + 1) s.size).data.toList (⟨#[62]⟩ : ByteArray).data.toList).2.2 = f) (hok : f = true → iriB t = false ∧ t.size ≤ 50000) :
    Calls Tryd.prog 164 #[.pointer (some ⟨b, 0, none⟩)] w fun e w' => e = .returned (.string ⟨#[]⟩) ∧ Rq w' b s (skip s i) 2 (skip s i) ∧ Kb b w w' := by
  have hbl := blk_lt hR
  have hx := nx_in (s := s) (i := i) (by rw [hn]; decide)
  have CN := Aside0.mk (next_ok b s i o w hR hs hi)
  have CF := Aside0.mk (fun W h => fails_ok b s (skip s i) o (skip s i) 0 2 W h)
  rw [hn] at CN
  obtain ⟨j, hj⟩ : ∃ j, skip s i = j := ⟨_, rfl⟩
  rw [hj] at hx CN CF hx1 hx2 ⊢
  have hs3 : (s.size : Int) ≤ 50000 := by omega
  have g1 : (j : Int) + 1 ≤ (s.size : Int) := by omega
  obtain ⟨tl, htl⟩ : ∃ tl, s.extract (j + 1) s.size = tl := ⟨_, rfl⟩
  have htz : tl.size ≤ 50000 := by rw [← htl, ByteArray.size_extract]; omega
  rw [htl] at hx1 hx2
  obtain ⟨y, hy⟩ : ∃ y, (⟨(Lib.cut tl.data.toList (⟨#[62]⟩ : ByteArray).data.toList).2.1.toArray⟩ : ByteArray) = y := ⟨_, rfl⟩
  have CC := Aside0.mk (fun W (hT : Tabs W) (n : Nat) => cut_q tl t y f W hT htz hx1 hy hx2 n)
  cases f with
  | false =>
    clear hR hn hx hok hx1 hx2 hy hj
    go_enter Tryd.func164, Tryd.ntmps164
    go_upto_region 4 with (go_at_call 56; (with_reducible refine CN.out.mono ?_); rintro e w1 ⟨rfl, hr, hk⟩; have HR1 := Aside0.mk hr; have HK1 := Aside0.mk hk; obtain ⟨c0, c1, c2, c3, f1, f2, f3⟩ := hr.cells; have HT1 := Aside0.mk (hT.below (hB.trans (hk.1.mono hb))); clear hr hk)
    have QC := Aside0.mk (CC.out w1 HT1.out)
    go_quiet (first
      | (go_at_call 172; exact Calls.quiet_of (QC.out _)))
    have HR2 : Aside0 (Rq (w1.drewN nq) b s j 0 o) := ⟨HR1.out⟩
    have HK2 := Aside0.mk (HK1.out.trans (Kb.drewN w1 nq))
    generalize w1.drewN nq = w2 at HR2 HK2 ⊢
    clear c0 c1 c2 c3 f1 f2 f3
    obtain ⟨c0, c1, c2, c3, f1, f2, f3⟩ := HR2.out.cells
    go_wp2_with (go_at_call 57; (with_reducible refine (CF.out _ HR2.out).mono ?_); rintro e w4 ⟨rfl, hr, hk⟩; have HR4 := Aside0.mk hr; have HK4 := Aside0.mk hk; clear hr hk)
    go_ret
    exact ⟨rfl, HR4.out, HK2.out.trans HK4.out⟩
  | true =>
    obtain ⟨ho1, ho2⟩ := hok rfl
    have CI : Aside0 (∀ W, Tabs W → Calls Tryd.prog 117 #[.string t] W fun e w' => e = .returned (.bool false) ∧ Below W.heap.size W w') := ⟨fun W h => by
      have := iri_any t W (by omega) h
      rwa [ho1] at this⟩
    clear hR hn hx hok hx1 hx2 hy hj ho1
    go_enter Tryd.func164, Tryd.ntmps164
    go_upto_region 4 with (go_at_call 56; (with_reducible refine CN.out.mono ?_); rintro e w1 ⟨rfl, hr, hk⟩; have HR1 := Aside0.mk hr; have HK1 := Aside0.mk hk; obtain ⟨c0, c1, c2, c3, f1, f2, f3⟩ := hr.cells; have HT1 := Aside0.mk (hT.below (hB.trans (hk.1.mono hb))); clear hr hk)
    have QC := Aside0.mk (CC.out w1 HT1.out)
    go_quiet (first
      | (go_at_call 172; exact Calls.quiet_of (QC.out _)))
    have HT2 := Aside0.mk (Tabs.drewN HT1.out nq)
    have HR2 : Aside0 (Rq (w1.drewN nq) b s j 0 o) := ⟨HR1.out⟩
    have HK2 := Aside0.mk (HK1.out.trans (Kb.drewN w1 nq))
    generalize w1.drewN nq = w2 at HT2 HR2 HK2 ⊢
    clear c0 c1 c2 c3 f1 f2 f3
    go_wp2_with (first
      | (go_at_call 117; (with_reducible refine (CI.out _ HT2.out).mono ?_); rintro e w3 ⟨rfl, hbl3⟩; have HR3 := Aside0.mk (HR2.out.below hbl3); have HK3 := Aside0.mk (HK2.out.trans (Kb.of hbl3 (by have := HK2.out.size; omega))); obtain ⟨c0, c1, c2, c3, f1, f2, f3⟩ := HR3.out.cells; clear hbl3)
      | (go_at_call 57; (with_reducible refine (CF.out _ HR3.out).mono ?_); rintro e w4 ⟨rfl, hr, hk⟩; have HR4 := Aside0.mk hr; have HK4 := Aside0.mk hk; clear hr hk))
    go_ret
    exact ⟨rfl, HR4.out, HK3.out.trans HK4.out⟩
/-- What iri leaves. -/
def PostI (b : Nat) (s : ByteArray) (w : World) (o : Nat) (r : Res ByteArray) (e : Ending) (w' : World) : Prop :=
  ∃ t, e = .returned (.string t) ∧ Kb b w w' ∧ (∀ t' j, r = .ok t' j → t = t' ∧ Rq w' b s j 0 o) ∧ (∀ er a, r = .no er a → er ≠ 0 ∧ ∃ i, Rq w' b s i er a)
theorem PostI.no {b : Nat} {s : ByteArray} {w w' : World} {o i a : Nat} {er : Int} {t : ByteArray} (hk : Kb b w w') (he : er ≠ 0) (hr : Rq w' b s i er a) : PostI b s w o (.no er a) (.returned (.string t)) w' :=
  ⟨t, rfl, hk, (fun t' j h => by cases h), (fun er' a' h => by
    simp only [Res.no.injEq] at h
    obtain ⟨rfl, rfl⟩ := h
    exact ⟨he, _, hr⟩)⟩
theorem PostI.ok {b : Nat} {s : ByteArray} {w w' : World} {o j : Nat} {t : ByteArray} (hk : Kb b w w') (hr : Rq w' b s j 0 o) : PostI b s w o (.ok t j) (.returned (.string t)) w' :=
  ⟨t, rfl, hk, (fun t' j h => by
    simp only [Res.ok.injEq] at h
    obtain ⟨rfl, rfl⟩ := h
    exact ⟨rfl, hr⟩), (fun er' a' h => by cases h)⟩
theorem iri_res (b : Nat) (s : ByteArray) (i o : Nat) (w0 w : World) (hR : Rq w b s i 0 o) (hs : s.size ≤ 50000) (hi : i ≤ s.size) (hT : Tabs w0) (hB : Below w0.heap.size w0 w) (hb : w0.heap.size ≤ b) :
    Calls Tryd.prog 164 #[.pointer (some ⟨b, 0, none⟩)] w (PostI b s w o (iriS s i)) := by
  unfold iriS
  by_cases hn : nx s i = 60
  · rw [if_pos hn]
    have hx := nx_in (s := s) (i := i) (by rw [hn]; decide)
    cases hf : findC s 62 (skip s i + 1) with
    | none =>
      refine (iri_no2 b s i o w0 w _ _ hR hs hi hT hB hb hn rfl (cut_none (by omega) hf) (fun h => by cases h)).mono ?_
      rintro e w' ⟨rfl, hr, hk⟩
      exact PostI.no hk (by decide) hr
    | some k =>
      obtain ⟨h1, h2⟩ := cut_some (s := s) (i := skip s i + 1) (by omega) hf
      simp only
      cases hok : iriB (s.extract (skip s i + 1) k) with
      | true =>
        rw [if_pos rfl]
        refine (iri_yes b s i o w0 w _ k hR hs hi hT hB hb hn hf rfl hok).mono ?_
        rintro e w' ⟨rfl, hr, hk⟩
        exact PostI.ok hk hr
      | false =>
        rw [if_neg (by simp)]
        refine (iri_no2 b s i o w0 w _ true hR hs hi hT hB hb hn h1 h2 (fun _ => ⟨hok, by rw [ByteArray.size_extract]; omega⟩)).mono ?_
        rintro e w' ⟨rfl, hr, hk⟩
        exact PostI.no hk (by decide) hr
  · rw [if_neg hn]
    refine (iri_no1 b s i o w hR hs hi hn).mono ?_
    rintro e w' ⟨rfl, hr, hk⟩
    exact PostI.no hk (by decide) hr
theorem iri_resE (b : Nat) (s : ByteArray) (i a o : Nat) (er : Int) (w : World) (hR : Rq w b s i er a) (he : er ≠ 0) :
    Calls Tryd.prog 164 #[.pointer (some ⟨b, 0, none⟩)] w (PostI b s w o (.no er a)) := by
  refine (iri_err b s i a er w hR he).mono ?_
  rintro e w' ⟨rfl, hr, hk⟩
  exact PostI.no hk he hr
end Go.Proofs.YtbaegfjoionojaaDoor.Qy
