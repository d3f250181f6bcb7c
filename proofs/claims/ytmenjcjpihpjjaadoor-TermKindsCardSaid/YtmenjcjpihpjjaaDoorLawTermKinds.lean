/- The law TermKinds: terms of unlike kinds of one text are not one; what is beside their own may not be. -/
import Derived.Test.YtmenjcjpihpjjaaDoorTmX
set_option linter.unusedSimpArgs false
set_option linter.unusedVariables false
namespace Go.Proofs.YtmenjcjpihpjjaaDoor.Tm
open Go Go.RowKit Go.Shelf Go.Proofs.YtmenjcjpihpjjaaDoorW.PrintWords

/-- A term that lies at a place. -/
def AtT (w : World) (b o : Nat) (k : Int) (t x : ByteArray) : Prop := w.cell? ⟨b, o, none⟩ = some (.int .i64 k) ∧ w.cell? ⟨b, o + 1, none⟩ = some (.string t) ∧ w.cell? ⟨b, o + 2, none⟩ = some (.string x)
def RowT (w : World) (b : Nat) (s : ByteArray) : Prop := ∀ i, i < 5 → AtT w b (i * 3) ((i : Int) + 1) s (xx i)
theorem AtT.below {w w1 : World} {b o : Nat} {k : Int} {t x : ByteArray} (h : AtT w b o k t x) (hb : Below w.heap.size w w1) : AtT w1 b o k t x := ⟨pw_cell_below hb h.1, pw_cell_below hb h.2.1, pw_cell_below hb h.2.2⟩
theorem RowT.below {w w1 : World} {b : Nat} {s : ByteArray} (h : RowT w b s) (hb : Below w.heap.size w w1) : RowT w1 b s := fun i hi => (h i hi).below hb
theorem RowT.drew {w : World} {b : Nat} {s : ByteArray} (h : RowT w b s) : RowT w.drew b s := h
theorem RowT.new (w : World) (s : ByteArray) : RowT (w.alloc (.cells #[.int .i64 1, .string s, .string ⟨#[]⟩, .int .i64 2, .string s, .string ⟨#[]⟩, .int .i64 3, .string s, .string ⟨#[]⟩, .int .i64 4, .string s, .string ⟨#[101, 110]⟩, .int .i64 5, .string s, .string ⟨#[97, 58, 98]⟩] 24)) w.heap.size s := by
  intro i hi
  have h4 : i = 0 ∨ i = 1 ∨ i = 2 ∨ i = 3 ∨ i = 4 := by omega
  rcases h4 with rfl | rfl | rfl | rfl | rfl <;> (refine ⟨?_, ?_, ?_⟩ <;> simp [xx])
set_option maxRecDepth 100000 in
set_option maxHeartbeats 8000000 in
theorem kinds_yes (s : ByteArray) (w : World) (hl : labelB s = true) (hT : Tabs w) : Calls Tryd.prog 8 #[.string s] w fun e w' => e = .returned (.bool true) ∧ Below w.heap.size w w' := by
  obtain ⟨hs0, hs8, _, _⟩ := label_facts hl
  have HL := Aside0.mk hl
  have HT0 := Aside0.mk hT
  have CK := Aside0.mk known_any
  have CR : Aside0 (∀ W, Tabs W → Calls Tryd.prog 14 #[.agg #[.int .i64 2, .string s, .string ⟨#[]⟩]] W fun e w' => e = .returned (.bool true) ∧ Below W.heap.size W w') := ⟨fun W h => by
    have := refIs_any ⟨2, s, ⟨#[]⟩⟩ W (by show s.size ≤ 1000; omega) (by show 0 ≤ 1000; decide) h
    rwa [show isB ⟨2, s, ⟨#[]⟩⟩ = true from kt_is hl (i := 1) (by decide)] at this⟩
  have CZ : Aside0 (∀ W, Tabs W → Calls Tryd.prog 10 #[.agg #[.int .i64 0, .string s, .string ⟨#[]⟩]] W fun e w' => e = .returned (.bool false) ∧ Below W.heap.size W w') := ⟨fun W h => by
    have := is_any ⟨0, s, ⟨#[]⟩⟩ W (by show s.size ≤ 1000; omega) (by show 0 ≤ 1000; decide) h
    rwa [is_none] at this⟩
  have C6 : Aside0 (∀ W, Tabs W → Calls Tryd.prog 10 #[.agg #[.int .i64 6, .string s, .string ⟨#[]⟩]] W fun e w' => e = .returned (.bool false) ∧ Below W.heap.size W w') := ⟨fun W h => by
    have := is_any ⟨6, s, ⟨#[]⟩⟩ W (by show s.size ≤ 1000; omega) (by show 0 ≤ 1000; decide) h
    rwa [is_six] at this⟩
  have CI : Aside0 (∀ (i : Nat), i < 5 → ∀ W, Tabs W → Calls Tryd.prog 10 #[.agg #[.int .i64 ((i : Int) + 1), .string s, .string (xx i)]] W fun e w' => e = .returned (.bool true) ∧ Below W.heap.size W w') := ⟨fun i hi W h => by
    have := is_any (kt s i) W (by show s.size ≤ 1000; omega) (by show (xx i).size ≤ 1000; have := xx_size i; omega) h
    rwa [kt_is hl hi] at this⟩
  have CN : Aside0 (∀ (i : Nat), i < 5 → ∀ W, Tabs W → Calls Tryd.prog 10 #[.agg #[.int .i64 ((i : Int) + 1), .string s, .string (xx i ++ (⟨#[60]⟩ : ByteArray))]] W fun e w' => e = .returned (.bool false) ∧ Below W.heap.size W w') := ⟨fun i hi W h => by
    have := is_any ⟨(i : Int) + 1, s, xx i ++ (⟨#[60]⟩ : ByteArray)⟩ W (by show s.size ≤ 1000; omega) (by show (xx i ++ (⟨#[60]⟩ : ByteArray)).size ≤ 1000; have := xx_size i; rw [ByteArray.size_append]; show (xx i).size + 1 ≤ 1000; omega) h
    rwa [kt_no s hi] at this⟩
  have CC : Aside0 (∀ (i j : Nat), ∀ W, Calls Tryd.prog 17 #[.agg #[.int .i64 ((i : Int) + 1), .string s, .string (xx i)], .agg #[.int .i64 ((j : Int) + 1), .string s, .string (xx j)]] W fun e w' => e = .returned (.int .i64 (cmpS (showS (kt s i)) (showS (kt s j)))) ∧ Below W.heap.size W w') := ⟨fun i j W => by
    have h1 := xx_size i
    have h2 := xx_size j
    exact cmp_any (kt s i) (kt s j) W (by show s.size ≤ 1000; omega) (by show (xx i).size ≤ 1000; omega) (by show s.size ≤ 1000; omega) (by show (xx j).size ≤ 1000; omega)⟩
  have HZ := Aside0.mk (fun (i j : Nat) (hi : i < 5) (hj : j < 5) => kt_cmp s hi hj)
  clear hl hT
  go_enter Tryd.func8, Tryd.ntmps8
  go_wp2_with (go_at_call 14; (with_reducible refine (CR.out _ HT0.out).mono ?_); rintro e w1 ⟨rfl, hb⟩; have HB1 := Aside0.mk hb; have HT1 := Aside0.mk (HT0.out.below hb); clear hb)
  have HR2 := Aside0.mk (RowT.new w1 s)
  have HB2 := Aside0.mk (below_alloc HB1.out (.cells #[.int .i64 1, .string s, .string ⟨#[]⟩, .int .i64 2, .string s, .string ⟨#[]⟩, .int .i64 3, .string s, .string ⟨#[]⟩, .int .i64 4, .string s, .string ⟨#[101, 110]⟩, .int .i64 5, .string s, .string ⟨#[97, 58, 98]⟩] 24))
  have HT2 := Aside0.mk (HT1.out.below (below_alloc (Below.refl _ _) (.cells #[.int .i64 1, .string s, .string ⟨#[]⟩, .int .i64 2, .string s, .string ⟨#[]⟩, .int .i64 3, .string s, .string ⟨#[]⟩, .int .i64 4, .string s, .string ⟨#[101, 110]⟩, .int .i64 5, .string s, .string ⟨#[97, 58, 98]⟩] 24)))
  go_loopw [4] (fun s4 wr => ∃ i : Nat, s4 = .int .i64 i ∧ i ≤ 5 ∧ Aside0 (RowT wr w1.heap.size s) ∧ Aside0 (Tabs wr) ∧ Aside0 (Below w.heap.size w wr)) (fun s4 _ => 5 - (intOf s4).toNat)
  case atStart => exact ⟨0, rfl, by omega, HR2, HT2, HB2⟩
  case round =>
    clear HR2 HT2 HB2 HB1 HT1
    obtain ⟨wa, rfl⟩ : ∃ x, x = wr := ⟨wr, rfl⟩
    obtain ⟨i, rfl, hi, HR, HTa, HB⟩ := hrel
    by_cases hlt : i < 5
    · have hi2 : (0 : Int) ≤ (i : Int) := by omega
      have hi3 : (i : Int) < 5 := by omega
      go_wp2_with fail
      go_loopw [5] (fun s5 wr => ∃ k : Nat, k ≤ 5 ∧ s5 = .int .i64 k ∧ Aside0 (RowT wr w1.heap.size s) ∧ Aside0 (Tabs wr) ∧ Aside0 (Below w.heap.size w wr)) (fun s5 _ => 5 - (intOf s5).toNat)
      case atStart => exact ⟨0, by omega, rfl, HR, HTa, HB⟩
      case round =>
        clear HR HTa HB
        obtain ⟨wb, rfl⟩ : ∃ x, x = wr := ⟨wr, rfl⟩
        obtain ⟨k, hk, rfl, HR, HTb, HB⟩ := hrel
        by_cases hlk : k < 5
        · have hk2 : (0 : Int) ≤ (k : Int) := by omega
          have hk3 : (k : Int) < 5 := by omega
          have HRd : Aside0 (RowT wb.drew w1.heap.size s) := ⟨HR.out.drew⟩
          have HTd := Aside0.mk (HTb.out.below (below_drew (Below.refl _ _)))
          have HBd := Aside0.mk (below_drew HB.out)
          obtain ⟨xi, hxi⟩ : ∃ y, y = xx i := ⟨_, rfl⟩
          have hai := HRd.out i hlt
          rw [← hxi] at hai
          have HAI := Aside0.mk hai
          clear hai
          by_cases hik : i = k
          · subst hik
            have C1 := Aside0.mk (CC.out i i)
            rw [(HZ.out i i hlt hlt).2 rfl, ← hxi] at C1
            have HAK := HAI
            clear hxi hk2 hk3
            go_upto_region 10 with (fail)
            clear HZ
            have hS : (fun W : World => (W.cell? ⟨w1.heap.size, i * 3, none⟩ = some (.int .i64 ((i : Int) + 1)) ∧ W.cell? ⟨w1.heap.size, i * 3 + 1, none⟩ = some (.string s) ∧ W.cell? ⟨w1.heap.size, i * 3 + 2, none⟩ = some (.string xi)) ∧ (W.cell? ⟨w1.heap.size, i * 3, none⟩ = some (.int .i64 ((i : Int) + 1)) ∧ W.cell? ⟨w1.heap.size, i * 3 + 1, none⟩ = some (.string s) ∧ W.cell? ⟨w1.heap.size, i * 3 + 2, none⟩ = some (.string xi))) wb.drew := ⟨HAI.out, HAK.out⟩
            refine wp_region_held (S := (fun W : World => (W.cell? ⟨w1.heap.size, i * 3, none⟩ = some (.int .i64 ((i : Int) + 1)) ∧ W.cell? ⟨w1.heap.size, i * 3 + 1, none⟩ = some (.string s) ∧ W.cell? ⟨w1.heap.size, i * 3 + 2, none⟩ = some (.string xi)) ∧ (W.cell? ⟨w1.heap.size, i * 3, none⟩ = some (.int .i64 ((i : Int) + 1)) ∧ W.cell? ⟨w1.heap.size, i * 3 + 1, none⟩ = some (.string s) ∧ W.cell? ⟨w1.heap.size, i * 3 + 2, none⟩ = some (.string xi)))) (by kernel_rfl) ?_
            change wpAnyH _ _ _ _ _ _ _ _ wb.drew
            first
              | (refine wpAnyH_take (i := 0) (v := undef) rfl (by kernel_rfl) (by kernel_rfl) (by kernel_rfl) (fun _ _ _ h => h) (Or.inr ⟨by rfl, rfl⟩) hS ?_)
              | (refine wpAnyH_take (i := 0) (v := ?_) rfl (by kernel_rfl) (by kernel_rfl) (by kernel_rfl) (fun _ _ _ h => h) (Or.inl ⟨by rfl, ?_⟩) hS ?_
                 rotate_left 1
                 · (intro w0 hSw; (try dsimp only at hSw); go_split_ands; go_simp; try with_reducible rfl))
              | fail
            try simp only [Act.put, List.getElem_toArray, List.getElem_cons_succ, List.getElem_cons_zero, List.setIfInBounds_toArray, List.set_cons_zero, List.set_cons_succ]
            first
              | (refine wpAnyH_take (i := 1) (v := undef) rfl (by kernel_rfl) (by kernel_rfl) (by kernel_rfl) (fun _ _ _ h => h) (Or.inr ⟨by rfl, rfl⟩) hS ?_)
              | (refine wpAnyH_take (i := 1) (v := ?_) rfl (by kernel_rfl) (by kernel_rfl) (by kernel_rfl) (fun _ _ _ h => h) (Or.inl ⟨by rfl, ?_⟩) hS ?_
                 rotate_left 1
                 · (intro w0 hSw; (try dsimp only at hSw); go_split_ands; go_simp; try with_reducible rfl))
              | fail
            try simp only [Act.put, List.getElem_toArray, List.getElem_cons_succ, List.getElem_cons_zero, List.setIfInBounds_toArray, List.set_cons_zero, List.set_cons_succ]
            first
              | (refine wpAnyH_take (i := 2) (v := undef) rfl (by kernel_rfl) (by kernel_rfl) (by kernel_rfl) (fun _ _ _ h => h) (Or.inr ⟨by rfl, rfl⟩) hS ?_)
              | (refine wpAnyH_take (i := 2) (v := ?_) rfl (by kernel_rfl) (by kernel_rfl) (by kernel_rfl) (fun _ _ _ h => h) (Or.inl ⟨by rfl, ?_⟩) hS ?_
                 rotate_left 1
                 · (intro w0 hSw; (try dsimp only at hSw); go_split_ands; go_simp; try with_reducible rfl))
              | fail
            try simp only [Act.put, List.getElem_toArray, List.getElem_cons_succ, List.getElem_cons_zero, List.setIfInBounds_toArray, List.set_cons_zero, List.set_cons_succ]
            first
              | (refine wpAnyH_take (i := 3) (v := undef) rfl (by kernel_rfl) (by kernel_rfl) (by kernel_rfl) (fun _ _ _ h => h) (Or.inr ⟨by rfl, rfl⟩) hS ?_)
              | (refine wpAnyH_take (i := 3) (v := ?_) rfl (by kernel_rfl) (by kernel_rfl) (by kernel_rfl) (fun _ _ _ h => h) (Or.inl ⟨by rfl, ?_⟩) hS ?_
                 rotate_left 1
                 · (intro w0 hSw; (try dsimp only at hSw); go_split_ands; go_simp; try with_reducible rfl))
              | fail
            try simp only [Act.put, List.getElem_toArray, List.getElem_cons_succ, List.getElem_cons_zero, List.setIfInBounds_toArray, List.set_cons_zero, List.set_cons_succ]
            first
              | (refine wpAnyH_take (i := 4) (v := undef) rfl (by kernel_rfl) (by kernel_rfl) (by kernel_rfl) (fun _ _ _ h => h) (Or.inr ⟨by rfl, rfl⟩) hS ?_)
              | (refine wpAnyH_take (i := 4) (v := ?_) rfl (by kernel_rfl) (by kernel_rfl) (by kernel_rfl) (fun _ _ _ h => h) (Or.inl ⟨by rfl, ?_⟩) hS ?_
                 rotate_left 1
                 · (intro w0 hSw; (try dsimp only at hSw); go_split_ands; go_simp; try with_reducible rfl))
              | fail
            try simp only [Act.put, List.getElem_toArray, List.getElem_cons_succ, List.getElem_cons_zero, List.setIfInBounds_toArray, List.set_cons_zero, List.set_cons_succ]
            first
              | (refine wpAnyH_take (i := 5) (v := undef) rfl (by kernel_rfl) (by kernel_rfl) (by kernel_rfl) (fun _ _ _ h => h) (Or.inr ⟨by rfl, rfl⟩) hS ?_)
              | (refine wpAnyH_take (i := 5) (v := ?_) rfl (by kernel_rfl) (by kernel_rfl) (by kernel_rfl) (fun _ _ _ h => h) (Or.inl ⟨by rfl, ?_⟩) hS ?_
                 rotate_left 1
                 · (intro w0 hSw; (try dsimp only at hSw); go_split_ands; go_simp; try with_reducible rfl))
              | fail
            try simp only [Act.put, List.getElem_toArray, List.getElem_cons_succ, List.getElem_cons_zero, List.setIfInBounds_toArray, List.set_cons_zero, List.set_cons_succ]
            first
              | (refine wpAnyH_take (i := 6) (v := undef) rfl (by kernel_rfl) (by kernel_rfl) (by kernel_rfl) (fun _ _ _ h => h) (Or.inr ⟨by rfl, rfl⟩) hS ?_)
              | (refine wpAnyH_take (i := 6) (v := ?_) rfl (by kernel_rfl) (by kernel_rfl) (by kernel_rfl) (fun _ _ _ h => h) (Or.inl ⟨by rfl, ?_⟩) hS ?_
                 rotate_left 1
                 · (intro w0 hSw; (try dsimp only at hSw); go_split_ands; go_simp; try with_reducible rfl))
              | fail
            try simp only [Act.put, List.getElem_toArray, List.getElem_cons_succ, List.getElem_cons_zero, List.setIfInBounds_toArray, List.set_cons_zero, List.set_cons_succ]
            first
              | (refine wpAnyH_take (i := 7) (v := undef) rfl (by kernel_rfl) (by kernel_rfl) (by kernel_rfl) (fun _ _ _ h => h) (Or.inr ⟨by rfl, rfl⟩) hS ?_)
              | (refine wpAnyH_take (i := 7) (v := ?_) rfl (by kernel_rfl) (by kernel_rfl) (by kernel_rfl) (fun _ _ _ h => h) (Or.inl ⟨by rfl, ?_⟩) hS ?_
                 rotate_left 1
                 · (intro w0 hSw; (try dsimp only at hSw); go_split_ands; go_simp; try with_reducible rfl))
              | fail
            try simp only [Act.put, List.getElem_toArray, List.getElem_cons_succ, List.getElem_cons_zero, List.setIfInBounds_toArray, List.set_cons_zero, List.set_cons_succ]
            first
              | (refine wpAnyH_take (i := 10) (v := undef) rfl (by kernel_rfl) (by kernel_rfl) (by kernel_rfl) (fun _ _ _ h => h) (Or.inr ⟨by rfl, rfl⟩) hS ?_)
              | (refine wpAnyH_take (i := 10) (v := ?_) rfl (by kernel_rfl) (by kernel_rfl) (by kernel_rfl) (fun _ _ _ h => h) (Or.inl ⟨by rfl, ?_⟩) hS ?_
                 rotate_left 1
                 · (intro w0 hSw; (try dsimp only at hSw); go_split_ands; go_simp; try with_reducible rfl))
              | fail
            try simp only [Act.put, List.getElem_toArray, List.getElem_cons_succ, List.getElem_cons_zero, List.setIfInBounds_toArray, List.set_cons_zero, List.set_cons_succ]
            first
              | (refine wpAnyH_take (i := 11) (v := undef) rfl (by kernel_rfl) (by kernel_rfl) (by kernel_rfl) (fun _ _ _ h => h) (Or.inr ⟨by rfl, rfl⟩) hS ?_)
              | (refine wpAnyH_take (i := 11) (v := ?_) rfl (by kernel_rfl) (by kernel_rfl) (by kernel_rfl) (fun _ _ _ h => h) (Or.inl ⟨by rfl, ?_⟩) hS ?_
                 rotate_left 1
                 · (intro w0 hSw; (try dsimp only at hSw); go_split_ands; go_simp; try with_reducible rfl))
              | fail
            try simp only [Act.put, List.getElem_toArray, List.getElem_cons_succ, List.getElem_cons_zero, List.setIfInBounds_toArray, List.set_cons_zero, List.set_cons_succ]
            first
              | (refine wpAnyH_take (i := 12) (v := undef) rfl (by kernel_rfl) (by kernel_rfl) (by kernel_rfl) (fun _ _ _ h => h) (Or.inr ⟨by rfl, rfl⟩) hS ?_)
              | (refine wpAnyH_take (i := 12) (v := ?_) rfl (by kernel_rfl) (by kernel_rfl) (by kernel_rfl) (fun _ _ _ h => h) (Or.inl ⟨by rfl, ?_⟩) hS ?_
                 rotate_left 1
                 · (intro w0 hSw; (try dsimp only at hSw); go_split_ands; go_simp; try with_reducible rfl))
              | fail
            try simp only [Act.put, List.getElem_toArray, List.getElem_cons_succ, List.getElem_cons_zero, List.setIfInBounds_toArray, List.set_cons_zero, List.set_cons_succ]
            refine wpAnyH_ready (rs := [8]) (by kernel_rfl) (by simp) ?_
            refine AllReadyH.cons rfl (fun K hK => ?_) AllReadyH.nil
            go_simp
            refine (C1.out _).mono ?_
            rintro e w2 ⟨rfl, hb⟩
            have HB2 := Aside0.mk (below_then HBd.out HBd.out.size hb)
            have HT2 := Aside0.mk (HTd.out.below hb)
            have HR2 := Aside0.mk (HRd.out.below hb)
            have HI2 := Aside0.mk (HAI.out.below hb)
            have HK2 := Aside0.mk (HAK.out.below hb)
            clear hb hS
            have hS : (fun W : World => (W.cell? ⟨w1.heap.size, i * 3, none⟩ = some (.int .i64 ((i : Int) + 1)) ∧ W.cell? ⟨w1.heap.size, i * 3 + 1, none⟩ = some (.string s) ∧ W.cell? ⟨w1.heap.size, i * 3 + 2, none⟩ = some (.string xi)) ∧ (W.cell? ⟨w1.heap.size, i * 3, none⟩ = some (.int .i64 ((i : Int) + 1)) ∧ W.cell? ⟨w1.heap.size, i * 3 + 1, none⟩ = some (.string s) ∧ W.cell? ⟨w1.heap.size, i * 3 + 2, none⟩ = some (.string xi))) w2 := ⟨HI2.out, HK2.out⟩
            refine hK.out _ _ hS (fun _ => ?_)
            clear hK K
            try simp only [Act.put, List.getElem_toArray, List.getElem_cons_succ, List.getElem_cons_zero, List.setIfInBounds_toArray, List.set_cons_zero, List.set_cons_succ]
            first
              | (refine wpAnyH_take (i := 9) (v := undef) rfl (by kernel_rfl) (by kernel_rfl) (by kernel_rfl) (fun _ _ _ h => h) (Or.inr ⟨by rfl, rfl⟩) hS ?_)
              | (refine wpAnyH_take (i := 9) (v := ?_) rfl (by kernel_rfl) (by kernel_rfl) (by kernel_rfl) (fun _ _ _ h => h) (Or.inl ⟨by rfl, ?_⟩) hS ?_
                 rotate_left 1
                 · (intro w0 hSw; (try dsimp only at hSw); go_split_ands; go_simp; try with_reducible rfl))
              | fail
            try simp only [Act.put, List.getElem_toArray, List.getElem_cons_succ, List.getElem_cons_zero, List.setIfInBounds_toArray, List.set_cons_zero, List.set_cons_succ]
            first
              | (refine wpAnyH_take (i := 13) (v := undef) rfl (by kernel_rfl) (by kernel_rfl) (by kernel_rfl) (fun _ _ _ h => h) (Or.inr ⟨by rfl, rfl⟩) hS ?_)
              | (refine wpAnyH_take (i := 13) (v := ?_) rfl (by kernel_rfl) (by kernel_rfl) (by kernel_rfl) (fun _ _ _ h => h) (Or.inl ⟨by rfl, ?_⟩) hS ?_
                 rotate_left 1
                 · (intro w0 hSw; (try dsimp only at hSw); go_split_ands; go_simp; try with_reducible rfl))
              | fail
            try simp only [Act.put, List.getElem_toArray, List.getElem_cons_succ, List.getElem_cons_zero, List.setIfInBounds_toArray, List.set_cons_zero, List.set_cons_succ]
            refine wpAnyH_done (by kernel_rfl) ?_ _
            go_wp2_with fail
            go_roundw
            case rel => exact ⟨i + 1, by omega, by go_num, HR2, HT2, HB2⟩
            case measure => simp [intOf]; omega
          · have hz := HZ.out i k hlt hlk
            have C1 := Aside0.mk (CC.out i k)
            obtain ⟨z, hzz⟩ : ∃ z, z = cmpS (showS (kt s i)) (showS (kt s k)) := ⟨_, rfl⟩
            rw [← hzz, ← hxi] at C1
            rw [← hzz] at hz
            obtain ⟨xk, hxk⟩ : ∃ y, y = xx k := ⟨_, rfl⟩
            have hak := HRd.out k hlk
            rw [← hxk] at hak C1
            have HAK := Aside0.mk hak
            clear hak hxi hxk hzz
            have hzn : ¬ z = 0 := fun h => hik (hz.1 h)
            have hz0 : (z == 0) = false := by rw [beq_eq_false_iff_ne]; exact hzn
            have hz1 : decide (z = 0) = false := decide_eq_false hzn
            have hik0 : ((i : Int) == (k : Int)) = false := by rw [beq_eq_false_iff_ne]; omega
            have hik1 : decide ((i : Int) = (k : Int)) = false := decide_eq_false (by omega)
            clear hz hzn
            go_upto_region 10 with (fail)
            clear HZ
            have hS : (fun W : World => (W.cell? ⟨w1.heap.size, i * 3, none⟩ = some (.int .i64 ((i : Int) + 1)) ∧ W.cell? ⟨w1.heap.size, i * 3 + 1, none⟩ = some (.string s) ∧ W.cell? ⟨w1.heap.size, i * 3 + 2, none⟩ = some (.string xi)) ∧ (W.cell? ⟨w1.heap.size, k * 3, none⟩ = some (.int .i64 ((k : Int) + 1)) ∧ W.cell? ⟨w1.heap.size, k * 3 + 1, none⟩ = some (.string s) ∧ W.cell? ⟨w1.heap.size, k * 3 + 2, none⟩ = some (.string xk))) wb.drew := ⟨HAI.out, HAK.out⟩
            refine wp_region_held (S := (fun W : World => (W.cell? ⟨w1.heap.size, i * 3, none⟩ = some (.int .i64 ((i : Int) + 1)) ∧ W.cell? ⟨w1.heap.size, i * 3 + 1, none⟩ = some (.string s) ∧ W.cell? ⟨w1.heap.size, i * 3 + 2, none⟩ = some (.string xi)) ∧ (W.cell? ⟨w1.heap.size, k * 3, none⟩ = some (.int .i64 ((k : Int) + 1)) ∧ W.cell? ⟨w1.heap.size, k * 3 + 1, none⟩ = some (.string s) ∧ W.cell? ⟨w1.heap.size, k * 3 + 2, none⟩ = some (.string xk)))) (by kernel_rfl) ?_
            change wpAnyH _ _ _ _ _ _ _ _ wb.drew
            first
              | (refine wpAnyH_take (i := 0) (v := undef) rfl (by kernel_rfl) (by kernel_rfl) (by kernel_rfl) (fun _ _ _ h => h) (Or.inr ⟨by rfl, rfl⟩) hS ?_)
              | (refine wpAnyH_take (i := 0) (v := ?_) rfl (by kernel_rfl) (by kernel_rfl) (by kernel_rfl) (fun _ _ _ h => h) (Or.inl ⟨by rfl, ?_⟩) hS ?_
                 rotate_left 1
                 · (intro w0 hSw; (try dsimp only at hSw); go_split_ands; go_simp; try with_reducible rfl))
              | fail
            try simp only [Act.put, List.getElem_toArray, List.getElem_cons_succ, List.getElem_cons_zero, List.setIfInBounds_toArray, List.set_cons_zero, List.set_cons_succ]
            first
              | (refine wpAnyH_take (i := 1) (v := undef) rfl (by kernel_rfl) (by kernel_rfl) (by kernel_rfl) (fun _ _ _ h => h) (Or.inr ⟨by rfl, rfl⟩) hS ?_)
              | (refine wpAnyH_take (i := 1) (v := ?_) rfl (by kernel_rfl) (by kernel_rfl) (by kernel_rfl) (fun _ _ _ h => h) (Or.inl ⟨by rfl, ?_⟩) hS ?_
                 rotate_left 1
                 · (intro w0 hSw; (try dsimp only at hSw); go_split_ands; go_simp; try with_reducible rfl))
              | fail
            try simp only [Act.put, List.getElem_toArray, List.getElem_cons_succ, List.getElem_cons_zero, List.setIfInBounds_toArray, List.set_cons_zero, List.set_cons_succ]
            first
              | (refine wpAnyH_take (i := 2) (v := undef) rfl (by kernel_rfl) (by kernel_rfl) (by kernel_rfl) (fun _ _ _ h => h) (Or.inr ⟨by rfl, rfl⟩) hS ?_)
              | (refine wpAnyH_take (i := 2) (v := ?_) rfl (by kernel_rfl) (by kernel_rfl) (by kernel_rfl) (fun _ _ _ h => h) (Or.inl ⟨by rfl, ?_⟩) hS ?_
                 rotate_left 1
                 · (intro w0 hSw; (try dsimp only at hSw); go_split_ands; go_simp; try with_reducible rfl))
              | fail
            try simp only [Act.put, List.getElem_toArray, List.getElem_cons_succ, List.getElem_cons_zero, List.setIfInBounds_toArray, List.set_cons_zero, List.set_cons_succ]
            first
              | (refine wpAnyH_take (i := 3) (v := undef) rfl (by kernel_rfl) (by kernel_rfl) (by kernel_rfl) (fun _ _ _ h => h) (Or.inr ⟨by rfl, rfl⟩) hS ?_)
              | (refine wpAnyH_take (i := 3) (v := ?_) rfl (by kernel_rfl) (by kernel_rfl) (by kernel_rfl) (fun _ _ _ h => h) (Or.inl ⟨by rfl, ?_⟩) hS ?_
                 rotate_left 1
                 · (intro w0 hSw; (try dsimp only at hSw); go_split_ands; go_simp; try with_reducible rfl))
              | fail
            try simp only [Act.put, List.getElem_toArray, List.getElem_cons_succ, List.getElem_cons_zero, List.setIfInBounds_toArray, List.set_cons_zero, List.set_cons_succ]
            first
              | (refine wpAnyH_take (i := 4) (v := undef) rfl (by kernel_rfl) (by kernel_rfl) (by kernel_rfl) (fun _ _ _ h => h) (Or.inr ⟨by rfl, rfl⟩) hS ?_)
              | (refine wpAnyH_take (i := 4) (v := ?_) rfl (by kernel_rfl) (by kernel_rfl) (by kernel_rfl) (fun _ _ _ h => h) (Or.inl ⟨by rfl, ?_⟩) hS ?_
                 rotate_left 1
                 · (intro w0 hSw; (try dsimp only at hSw); go_split_ands; go_simp; try with_reducible rfl))
              | fail
            try simp only [Act.put, List.getElem_toArray, List.getElem_cons_succ, List.getElem_cons_zero, List.setIfInBounds_toArray, List.set_cons_zero, List.set_cons_succ]
            first
              | (refine wpAnyH_take (i := 5) (v := undef) rfl (by kernel_rfl) (by kernel_rfl) (by kernel_rfl) (fun _ _ _ h => h) (Or.inr ⟨by rfl, rfl⟩) hS ?_)
              | (refine wpAnyH_take (i := 5) (v := ?_) rfl (by kernel_rfl) (by kernel_rfl) (by kernel_rfl) (fun _ _ _ h => h) (Or.inl ⟨by rfl, ?_⟩) hS ?_
                 rotate_left 1
                 · (intro w0 hSw; (try dsimp only at hSw); go_split_ands; go_simp; try with_reducible rfl))
              | fail
            try simp only [Act.put, List.getElem_toArray, List.getElem_cons_succ, List.getElem_cons_zero, List.setIfInBounds_toArray, List.set_cons_zero, List.set_cons_succ]
            first
              | (refine wpAnyH_take (i := 6) (v := undef) rfl (by kernel_rfl) (by kernel_rfl) (by kernel_rfl) (fun _ _ _ h => h) (Or.inr ⟨by rfl, rfl⟩) hS ?_)
              | (refine wpAnyH_take (i := 6) (v := ?_) rfl (by kernel_rfl) (by kernel_rfl) (by kernel_rfl) (fun _ _ _ h => h) (Or.inl ⟨by rfl, ?_⟩) hS ?_
                 rotate_left 1
                 · (intro w0 hSw; (try dsimp only at hSw); go_split_ands; go_simp; try with_reducible rfl))
              | fail
            try simp only [Act.put, List.getElem_toArray, List.getElem_cons_succ, List.getElem_cons_zero, List.setIfInBounds_toArray, List.set_cons_zero, List.set_cons_succ]
            first
              | (refine wpAnyH_take (i := 7) (v := undef) rfl (by kernel_rfl) (by kernel_rfl) (by kernel_rfl) (fun _ _ _ h => h) (Or.inr ⟨by rfl, rfl⟩) hS ?_)
              | (refine wpAnyH_take (i := 7) (v := ?_) rfl (by kernel_rfl) (by kernel_rfl) (by kernel_rfl) (fun _ _ _ h => h) (Or.inl ⟨by rfl, ?_⟩) hS ?_
                 rotate_left 1
                 · (intro w0 hSw; (try dsimp only at hSw); go_split_ands; go_simp; try with_reducible rfl))
              | fail
            try simp only [Act.put, List.getElem_toArray, List.getElem_cons_succ, List.getElem_cons_zero, List.setIfInBounds_toArray, List.set_cons_zero, List.set_cons_succ]
            first
              | (refine wpAnyH_take (i := 10) (v := undef) rfl (by kernel_rfl) (by kernel_rfl) (by kernel_rfl) (fun _ _ _ h => h) (Or.inr ⟨by rfl, rfl⟩) hS ?_)
              | (refine wpAnyH_take (i := 10) (v := ?_) rfl (by kernel_rfl) (by kernel_rfl) (by kernel_rfl) (fun _ _ _ h => h) (Or.inl ⟨by rfl, ?_⟩) hS ?_
                 rotate_left 1
                 · (intro w0 hSw; (try dsimp only at hSw); go_split_ands; go_simp; try with_reducible rfl))
              | fail
            try simp only [Act.put, List.getElem_toArray, List.getElem_cons_succ, List.getElem_cons_zero, List.setIfInBounds_toArray, List.set_cons_zero, List.set_cons_succ]
            first
              | (refine wpAnyH_take (i := 11) (v := undef) rfl (by kernel_rfl) (by kernel_rfl) (by kernel_rfl) (fun _ _ _ h => h) (Or.inr ⟨by rfl, rfl⟩) hS ?_)
              | (refine wpAnyH_take (i := 11) (v := ?_) rfl (by kernel_rfl) (by kernel_rfl) (by kernel_rfl) (fun _ _ _ h => h) (Or.inl ⟨by rfl, ?_⟩) hS ?_
                 rotate_left 1
                 · (intro w0 hSw; (try dsimp only at hSw); go_split_ands; go_simp; try with_reducible rfl))
              | fail
            try simp only [Act.put, List.getElem_toArray, List.getElem_cons_succ, List.getElem_cons_zero, List.setIfInBounds_toArray, List.set_cons_zero, List.set_cons_succ]
            first
              | (refine wpAnyH_take (i := 12) (v := undef) rfl (by kernel_rfl) (by kernel_rfl) (by kernel_rfl) (fun _ _ _ h => h) (Or.inr ⟨by rfl, rfl⟩) hS ?_)
              | (refine wpAnyH_take (i := 12) (v := ?_) rfl (by kernel_rfl) (by kernel_rfl) (by kernel_rfl) (fun _ _ _ h => h) (Or.inl ⟨by rfl, ?_⟩) hS ?_
                 rotate_left 1
                 · (intro w0 hSw; (try dsimp only at hSw); go_split_ands; go_simp; try with_reducible rfl))
              | fail
            try simp only [Act.put, List.getElem_toArray, List.getElem_cons_succ, List.getElem_cons_zero, List.setIfInBounds_toArray, List.set_cons_zero, List.set_cons_succ]
            refine wpAnyH_ready (rs := [8]) (by kernel_rfl) (by simp) ?_
            refine AllReadyH.cons rfl (fun K hK => ?_) AllReadyH.nil
            go_simp
            refine (C1.out _).mono ?_
            rintro e w2 ⟨rfl, hb⟩
            have HB2 := Aside0.mk (below_then HBd.out HBd.out.size hb)
            have HT2 := Aside0.mk (HTd.out.below hb)
            have HR2 := Aside0.mk (HRd.out.below hb)
            have HI2 := Aside0.mk (HAI.out.below hb)
            have HK2 := Aside0.mk (HAK.out.below hb)
            clear hb hS
            have hS : (fun W : World => (W.cell? ⟨w1.heap.size, i * 3, none⟩ = some (.int .i64 ((i : Int) + 1)) ∧ W.cell? ⟨w1.heap.size, i * 3 + 1, none⟩ = some (.string s) ∧ W.cell? ⟨w1.heap.size, i * 3 + 2, none⟩ = some (.string xi)) ∧ (W.cell? ⟨w1.heap.size, k * 3, none⟩ = some (.int .i64 ((k : Int) + 1)) ∧ W.cell? ⟨w1.heap.size, k * 3 + 1, none⟩ = some (.string s) ∧ W.cell? ⟨w1.heap.size, k * 3 + 2, none⟩ = some (.string xk))) w2 := ⟨HI2.out, HK2.out⟩
            refine hK.out _ _ hS (fun _ => ?_)
            clear hK K
            try simp only [Act.put, List.getElem_toArray, List.getElem_cons_succ, List.getElem_cons_zero, List.setIfInBounds_toArray, List.set_cons_zero, List.set_cons_succ]
            first
              | (refine wpAnyH_take (i := 9) (v := undef) rfl (by kernel_rfl) (by kernel_rfl) (by kernel_rfl) (fun _ _ _ h => h) (Or.inr ⟨by rfl, rfl⟩) hS ?_)
              | (refine wpAnyH_take (i := 9) (v := ?_) rfl (by kernel_rfl) (by kernel_rfl) (by kernel_rfl) (fun _ _ _ h => h) (Or.inl ⟨by rfl, ?_⟩) hS ?_
                 rotate_left 1
                 · (intro w0 hSw; (try dsimp only at hSw); go_split_ands; go_simp; try with_reducible rfl))
              | fail
            try simp only [Act.put, List.getElem_toArray, List.getElem_cons_succ, List.getElem_cons_zero, List.setIfInBounds_toArray, List.set_cons_zero, List.set_cons_succ]
            first
              | (refine wpAnyH_take (i := 13) (v := undef) rfl (by kernel_rfl) (by kernel_rfl) (by kernel_rfl) (fun _ _ _ h => h) (Or.inr ⟨by rfl, rfl⟩) hS ?_)
              | (refine wpAnyH_take (i := 13) (v := ?_) rfl (by kernel_rfl) (by kernel_rfl) (by kernel_rfl) (fun _ _ _ h => h) (Or.inl ⟨by rfl, ?_⟩) hS ?_
                 rotate_left 1
                 · (intro w0 hSw; (try dsimp only at hSw); go_split_ands; go_simp; try with_reducible rfl))
              | fail
            try simp only [Act.put, List.getElem_toArray, List.getElem_cons_succ, List.getElem_cons_zero, List.setIfInBounds_toArray, List.set_cons_zero, List.set_cons_succ]
            refine wpAnyH_done (by kernel_rfl) ?_ _
            go_wp2_with fail
            go_roundw
            case rel => exact ⟨k + 1, by omega, by go_num, HR2, HT2, HB2⟩
            case measure => simp [intOf]; omega
        · have hk5 : k = 5 := by omega
          subst hk5
          clear HZ CC
          obtain ⟨xi, hxi⟩ : ∃ y, y = xx i := ⟨_, rfl⟩
          have C2 := Aside0.mk (CI.out i hlt)
          have C3 := Aside0.mk (CN.out i hlt)
          have hsx := xx_size i
          rw [← hxi] at C2 C3 hsx
          have HAI := Aside0.mk (HR.out i hlt)
          rw [← hxi] at HAI
          obtain ⟨c0, c1, c2⟩ := HAI.out
          clear hxi hk hlk
          go_upto_region 14 with (fail)
          obtain ⟨wq, hwq, HBq⟩ := boxT wb ((i : Int) + 1) s (xi ++ (⟨#[60]⟩ : ByteArray))
          rw [← hwq]
          have HXq : Aside0 (BoxedT wq wb.heap.size ((i : Int) + 1) s (xi ++ (⟨#[60]⟩ : ByteArray))) := ⟨by rw [hwq]; exact BoxedT.new wb _ _ _ _⟩
          have HTq := Aside0.mk (HTb.out.below HBq.out)
          have HRq := Aside0.mk (HR.out.below HBq.out)
          have HBQ := Aside0.mk (below_then HB.out HB.out.size HBq.out)
          obtain ⟨d0, d1, d2⟩ := HAI.out.below HBq.out
          clear hwq c0 c1 c2
          go_wp2_with (go_at_call 10; first
            | ((with_reducible refine (C2.out _ HTq.out).mono ?_); rintro e w3 ⟨rfl, hb⟩; have HB3 := Aside0.mk (below_then HBQ.out HBQ.out.size hb); have HT3 := Aside0.mk (HTq.out.below hb); have HR3 := Aside0.mk (HRq.out.below hb); obtain ⟨x0, x1, x2⟩ := HXq.out.below hb; clear hb)
            | ((with_reducible refine (C3.out _ HT3.out).mono ?_); rintro e w4 ⟨rfl, hb⟩; have HB4 := Aside0.mk (below_then HB3.out HB3.out.size hb); have HT4 := Aside0.mk (HT3.out.below hb); have HR4 := Aside0.mk (HR3.out.below hb); clear hb))
          go_roundw
          case rel => exact ⟨i + 1, by go_num, by omega, HR4, HT4, HB4⟩
          case measure => simp [intOf]; omega
    · have hi5 : i = 5 := by omega
      subst hi5
      clear HZ CC CI CN hi hlt
      go_wp2_with (first
        | (go_at_call 10; first
          | ((with_reducible refine (CZ.out _ HTa.out).mono ?_); rintro e w3 ⟨rfl, hb⟩; have HB3 := Aside0.mk (below_then HB.out HB.out.size hb); have HT3 := Aside0.mk (HTa.out.below hb); clear hb)
          | ((with_reducible refine (C6.out _ HT3.out).mono ?_); rintro e w4 ⟨rfl, hb⟩; have HB4 := Aside0.mk (below_then HB3.out HB3.out.size hb); have HT4 := Aside0.mk (HT3.out.below hb); clear hb))
        | (go_at_call 11; (with_reducible refine (CK.out _ HT4.out).mono ?_); rintro e w5 ⟨rfl, hb⟩; have HB5 := Aside0.mk (below_then HB4.out HB4.out.size hb); clear hb))
      go_ret
      exact ⟨rfl, HB5.out⟩
set_option maxRecDepth 100000 in
set_option maxHeartbeats 2000000 in
theorem kinds_law (s : ByteArray) (w : World) (_h : s.size ≤ maxLen) (h2 : s.size ≤ 140737488351232) (hT : Tabs w) : Calls Tryd.prog 8 #[.string s] w fun e w' => e = .returned (.bool true) ∧ Below w.heap.size w w' := by
  cases hl : labelB s with
  | true => exact kinds_yes s w hl hT
  | false =>
    have CR : Aside0 (∀ W, Tabs W → Calls Tryd.prog 14 #[.agg #[.int .i64 2, .string s, .string ⟨#[]⟩]] W fun e w' => e = .returned (.bool false) ∧ Below W.heap.size W w') := ⟨fun W h => by
      by_cases h30 : 30 < s.size
      · exact refIs_big s W h2 h30 h
      · have := refIs_any ⟨2, s, ⟨#[]⟩⟩ W (by show s.size ≤ 1000; omega) (by show 0 ≤ 1000; decide) h
        rwa [show isB ⟨2, s, ⟨#[]⟩⟩ = false by show (labelB s && true) = false; rw [hl]; rfl] at this⟩
    have HT0 := Aside0.mk hT
    clear hl hT
    go_enter Tryd.func8, Tryd.ntmps8
    go_wp2_with (go_at_call 14; (with_reducible refine (CR.out _ HT0.out).mono ?_); rintro e w1 ⟨rfl, hb⟩; have HB1 := Aside0.mk hb; clear hb)
    go_ret
    exact ⟨rfl, HB1.out⟩
end Go.Proofs.YtmenjcjpihpjjaaDoor.Tm
