/- The walk of the reference's Term at the show of any term that may be. -/
import Derived.Test.YtmenjcjpihpjjaaDoorTmOC
set_option linter.unusedSimpArgs false
set_option linter.unusedVariables false
namespace Go.Proofs.YtmenjcjpihpjjaaDoor.Tm
open Go Go.RowKit Go.Shelf Go.Proofs.YtmenjcjpihpjjaaDoorW.PrintWords

set_option maxRecDepth 100000 in
set_option maxHeartbeats 2000000 in
theorem refTerm_any (k : Int) (t x s : ByteArray) (w : World) (hok : isB ⟨k, t, x⟩ = true) (hsh : showS ⟨k, t, x⟩ = s) (hT : Tabs w) :
    Calls Tryd.prog 13 #[.string s] w fun e w' => e = .returned (.tuple #[.agg #[.int .i64 k, .string t, .string x], .bool true]) ∧ Below w.heap.size w w' := by
  have hsl := is_sizes hok
  simp only at hsl
  have hv : validB s = true := by rw [← hsh]; exact show_valid hok
  have hs2 : s.size ≤ 50000 := by have := show_size hok; rw [hsh] at this; omega
  obtain ⟨wa, hwa, HA⟩ : ∃ wa, wa = w.alloc (.cells #[.int .i64 0, .string ⟨#[]⟩, .string ⟨#[]⟩] 24) ∧ Aside0 (Below w.heap.size w wa) := ⟨_, rfl, ⟨below_alloc (Below.refl _ _) _⟩⟩
  have HTa := Aside0.mk (hT.below HA.out)
  have HNA : Aside0 (wa.heap[w.heap.size]? = some (.cells #[.int .i64 0, .string ⟨#[]⟩, .string ⟨#[]⟩] 24 (0, 0))) := ⟨by rw [hwa]; exact heap_alloc_new _ _⟩
  have CV := Aside0.mk (valid_any s wa (by omega) HTa.out)
  rw [hv] at CV
  have CS := Aside0.mk (fun W => refShow_any ⟨k, t, x⟩ W (by show t.size ≤ 1000; omega) (by show x.size ≤ 1000; omega))
  rw [hsh] at CS
  unfold Trm.val at CS
  simp only at CS
  have HWA := Aside0.mk hwa
  have HSH := Aside0.mk hsh
  have HOK := Aside0.mk hok
  clear hwa hv hok hsh hsl hT
  go_enter Tryd.func13, Tryd.ntmps13
  go_upto_region 4 with (go_at_call 21; rw [← HWA.out]; (with_reducible refine CV.out.mono ?_); rintro e w1 ⟨rfl, hb⟩; have HB1 := Aside0.mk hb; have HT1 := Aside0.mk (HTa.out.below hb); have HN1 := Aside0.mk ((hb.block _ (blk_lt HNA.out)).trans HNA.out); clear hb)
  obtain ⟨wr, hwr, HRB⟩ : ∃ wr, wr = w1.alloc (.cells #[.string s, .bool false] 49) ∧ Aside0 (Below w1.heap.size w1 wr) := ⟨_, rfl, ⟨below_alloc (Below.refl _ _) _⟩⟩
  have HR : Aside0 (Rd wr w1.heap.size s) := ⟨by rw [hwr]; exact heap_alloc_new _ _⟩
  rw [← hwr]
  have HZr : Aside0 (wr.heap.size = w1.heap.size + 1) := ⟨by rw [hwr]; simp⟩
  clear hwr
  have CL := Aside0.mk (term_any ⟨k, t, x⟩ w1.heap.size w1 wr (by rw [HSH.out]; exact HR.out) HOK.out HT1.out HRB.out (Nat.le_refl _))
  unfold Trm.val at CL
  simp only at CL
  go_upto_region 5 with (go_at_call 25; (with_reducible refine CL.out.mono ?_); rintro e w3 ⟨rfl, hr, hk⟩; have HR3 := Aside0.mk hr; have HK3 := Aside0.mk hk; clear hr hk)
  obtain ⟨wt, hwt, HT⟩ := boxT w3 k t x
  rw [← hwt]
  have HXt : Aside0 (BoxedT wt w3.heap.size k t x) := ⟨by rw [hwt]; exact BoxedT.new w3 _ _ _ _⟩
  clear hwt
  have HRt := Aside0.mk (HR3.out.below HT.out)
  have hlt1 := blk_lt HN1.out
  have hz3 := HK3.out.1.size
  have hB13 : Below w1.heap.size w1 w3 := HRB.out.trans HK3.out.1
  have hB1t : Below w1.heap.size w1 wt := hB13.trans (HT.out.mono hB13.size)
  have HNt := Aside0.mk ((hB1t.block _ hlt1).trans HN1.out)
  have HBt : Aside0 (Below w.heap.size w wt) := ⟨(HA.out.trans (HB1.out.mono HA.out.size)).trans (hB1t.mono (by omega))⟩
  clear hB13 hB1t hz3
  obtain ⟨x0, x1, x2⟩ := HXt.out
  obtain ⟨r0, r1, rf⟩ := HRt.out.cells
  go_upto_region 7 with (go_at_call 26; (with_reducible refine (CS.out _).mono ?_); rintro e w5 ⟨rfl, hb⟩; have HB5 := Aside0.mk (below_then HBt.out HBt.out.size hb); have HN5 := Aside0.mk ((hb.block _ (blk_lt HNt.out)).trans HNt.out); have HX5 := Aside0.mk (HXt.out.below hb); clear hb)
  clear x0 x1 x2 r0 r1 rf
  obtain ⟨x0, x1, x2⟩ := HX5.out
  have n0 := blk_cell HN5.out 0
  have n1 := blk_cell HN5.out 1
  have n2 := blk_cell HN5.out 2
  simp at n0 n1 n2
  have k0 := blk_frozen HN5.out 0
  have k1 := blk_frozen HN5.out 1
  have k2 := blk_frozen HN5.out 2
  go_wp2_with fail
  have hf := three_set HN5.out (.int .i64 k) (.string t) (.string x)
  have HBf := Aside0.mk (((HB5.out.setCell (p := ⟨w.heap.size, 0, none⟩) (Nat.le_refl _) (.int .i64 k)).setCell (p := ⟨w.heap.size, 1, none⟩) (Nat.le_refl _) (.string t)).setCell (p := ⟨w.heap.size, 2, none⟩) (Nat.le_refl _) (.string x))
  generalize ((w5.setCell ⟨w.heap.size, 0, none⟩ (.int .i64 k)).setCell ⟨w.heap.size, 1, none⟩ (.string t)).setCell ⟨w.heap.size, 2, none⟩ (.string x) = wz at hf HBf ⊢
  have z0 := blk_cell hf 0
  have z1 := blk_cell hf 1
  have z2 := blk_cell hf 2
  simp at z0 z1 z2
  clear hf
  refine bodyPost_ret (by simp [results, Tryd.results13, go_sem, z0, z1, z2]; try rfl) rfl ?_
  exact ⟨rfl, HBf.out⟩
end Go.Proofs.YtmenjcjpihpjjaaDoor.Tm
