/- The walks of all, and of its closure. -/
import Derived.Test.YtbaegfjoionojaaDoorTmA
set_option linter.unusedSimpArgs false
set_option linter.unusedVariables false
namespace Go.Proofs.YtbaegfjoionojaaDoor.Tm
open Go Go.RowKit Go.Shelf Go.Proofs.YtbaegfjoionojaaDoorW.PrintWords

theorem all1_rune (b x : Nat) (hx : x ≤ 1114111) (w : World) (hc : w.cell? ⟨b, 0, none⟩ = some (.func (.func 141) #[] #[])) : Calls Tryd.prog 160 #[.int .i32 (x : Int), .pointer (some ⟨b, 0, none⟩)] w fun e w' => e = .returned (.bool (!iriRuneB x)) ∧ w' = w := by
  have C := Aside0.mk (isRune_any x hx w)
  obtain ⟨t, ht⟩ : ∃ t, t = iriRuneB x := ⟨_, rfl⟩
  rw [← ht] at C ⊢
  clear ht
  cases t
  all_goals
    go_enter Tryd.func160, Tryd.ntmps160
    go_wp2_with (go_at_call 141; (with_reducible refine C.out.mono ?_); rintro e w1 ⟨rfl, rfl⟩)
    go_ret
    exact ⟨rfl, rfl⟩
theorem all_rune (s : ByteArray) (w : World) : Calls Tryd.prog 140 #[.string s, .func (.func 141) #[] #[]] w fun e w' => e = .returned (.bool ((runes s).all iriRuneB)) ∧ Below w.heap.size w w' := by
  obtain ⟨wb, hwb⟩ : ∃ wb, wb = w.alloc (.cells #[.func (.func 141) #[] #[]] 150) := ⟨_, rfl⟩
  have hbel : Below w.heap.size w wb := by rw [hwb]; exact below_alloc (Below.refl _ _) _
  have hcell : wb.cell? ⟨w.heap.size, 0, none⟩ = some (.func (.func 141) #[] #[]) := by rw [hwb]; simp
  have hp : PredGrows Tryd.prog 160 #[.pointer (some ⟨w.heap.size, 0, none⟩)] (fun x => !iriRuneB x) wb := fun W x hx hb =>
    (all1_rune w.heap.size x hx W ((hb.cell (p := ⟨w.heap.size, 0, none⟩) (World.block_lt_of_cell? wb _ hcell)).trans hcell)).mono (fun e w' h => ⟨h.1, by rw [h.2]; exact Below.refl _ _⟩)
  have CF := Tryd.strings_ContainsFunc_grows 160 #[.pointer (some ⟨w.heap.size, 0, none⟩)] (enters_of Tryd.func160 (by kernel_rfl) rfl) (fun x => !iriRuneB x) s wb hp
  rw [contains_func] at CF
  have HA := Aside0.mk (not_any_not iriRuneB (runes s))
  obtain ⟨t, ht⟩ : ∃ t, t = (runes s).any (fun x => !iriRuneB x) := ⟨_, rfl⟩
  rw [← ht] at CF HA
  rw [hwb] at CF
  have CF := Aside0.mk CF
  have HB := Aside0.mk hbel
  rw [← HA.out]
  rw [hwb] at HB
  clear hp hcell hbel hwb ht HA
  cases t
  all_goals
    go_enter Tryd.func140, Tryd.ntmps140
    go_wp2_with (go_at_call 159; (with_reducible refine CF.out.mono ?_); rintro e w1 ⟨rfl, hb⟩; have HB1 := Aside0.mk (HB.out.trans (hb.mono HB.out.size)); clear hb)
    go_ret
    exact ⟨rfl, HB1.out⟩
theorem all1_label (b x : Nat) (w : World) (hc : w.cell? ⟨b, 0, none⟩ = some (.func (.func 149) #[] #[])) : Calls Tryd.prog 160 #[.int .i32 (x : Int), .pointer (some ⟨b, 0, none⟩)] w fun e w' => e = .returned (.bool (!alnumB x)) ∧ w' = w := by
  have C := Aside0.mk (label1_any x w)
  obtain ⟨t, ht⟩ : ∃ t, t = alnumB x := ⟨_, rfl⟩
  rw [← ht] at C ⊢
  clear ht
  cases t
  all_goals
    go_enter Tryd.func160, Tryd.ntmps160
    go_wp2_with (go_at_call 149; (with_reducible refine C.out.mono ?_); rintro e w1 ⟨rfl, rfl⟩)
    go_ret
    exact ⟨rfl, rfl⟩
theorem all_label (s : ByteArray) (w : World) : Calls Tryd.prog 140 #[.string s, .func (.func 149) #[] #[]] w fun e w' => e = .returned (.bool ((runes s).all alnumB)) ∧ Below w.heap.size w w' := by
  obtain ⟨wb, hwb⟩ : ∃ wb, wb = w.alloc (.cells #[.func (.func 149) #[] #[]] 150) := ⟨_, rfl⟩
  have hbel : Below w.heap.size w wb := by rw [hwb]; exact below_alloc (Below.refl _ _) _
  have hcell : wb.cell? ⟨w.heap.size, 0, none⟩ = some (.func (.func 149) #[] #[]) := by rw [hwb]; simp
  have hp : PredGrows Tryd.prog 160 #[.pointer (some ⟨w.heap.size, 0, none⟩)] (fun x => !alnumB x) wb := fun W x hx hb =>
    (all1_label w.heap.size x W ((hb.cell (p := ⟨w.heap.size, 0, none⟩) (World.block_lt_of_cell? wb _ hcell)).trans hcell)).mono (fun e w' h => ⟨h.1, by rw [h.2]; exact Below.refl _ _⟩)
  have CF := Tryd.strings_ContainsFunc_grows 160 #[.pointer (some ⟨w.heap.size, 0, none⟩)] (enters_of Tryd.func160 (by kernel_rfl) rfl) (fun x => !alnumB x) s wb hp
  rw [contains_func] at CF
  have HA := Aside0.mk (not_any_not alnumB (runes s))
  obtain ⟨t, ht⟩ : ∃ t, t = (runes s).any (fun x => !alnumB x) := ⟨_, rfl⟩
  rw [← ht] at CF HA
  rw [hwb] at CF
  have CF := Aside0.mk CF
  have HB := Aside0.mk hbel
  rw [← HA.out]
  rw [hwb] at HB
  clear hp hcell hbel hwb ht HA
  cases t
  all_goals
    go_enter Tryd.func140, Tryd.ntmps140
    go_wp2_with (go_at_call 159; (with_reducible refine CF.out.mono ?_); rintro e w1 ⟨rfl, hb⟩; have HB1 := Aside0.mk (HB.out.trans (hb.mono HB.out.size)); clear hb)
    go_ret
    exact ⟨rfl, HB1.out⟩
theorem all1_lang (i bk : Nat) (b x : Nat) (w : World) (hk : w.cell? ⟨bk, 0, none⟩ = some (.int .i64 (i : Int))) (hc : w.cell? ⟨b, 0, none⟩ = some (.func (.func 153) #[] #[.pointer (some ⟨bk, 0, none⟩)])) : Calls Tryd.prog 160 #[.int .i32 (x : Int), .pointer (some ⟨b, 0, none⟩)] w fun e w' => e = .returned (.bool (!(langRuneB i) x)) ∧ w' = w := by
  have C := Aside0.mk (lang1_any x i bk w hk)
  obtain ⟨t, ht⟩ : ∃ t, t = (langRuneB i) x := ⟨_, rfl⟩
  rw [← ht] at C ⊢
  clear ht
  cases t
  all_goals
    go_enter Tryd.func160, Tryd.ntmps160
    go_wp2_with (go_at_call 153; (with_reducible refine C.out.mono ?_); rintro e w1 ⟨rfl, rfl⟩)
    go_ret
    exact ⟨rfl, rfl⟩
theorem all_lang (i bk : Nat) (s : ByteArray) (w : World) (hk : w.cell? ⟨bk, 0, none⟩ = some (.int .i64 (i : Int))) : Calls Tryd.prog 140 #[.string s, .func (.func 153) #[] #[.pointer (some ⟨bk, 0, none⟩)]] w fun e w' => e = .returned (.bool ((runes s).all (langRuneB i))) ∧ Below w.heap.size w w' := by
  obtain ⟨wb, hwb⟩ : ∃ wb, wb = w.alloc (.cells #[.func (.func 153) #[] #[.pointer (some ⟨bk, 0, none⟩)]] 150) := ⟨_, rfl⟩
  have hbel : Below w.heap.size w wb := by rw [hwb]; exact below_alloc (Below.refl _ _) _
  have hcell : wb.cell? ⟨w.heap.size, 0, none⟩ = some (.func (.func 153) #[] #[.pointer (some ⟨bk, 0, none⟩)]) := by rw [hwb]; simp
  have hp : PredGrows Tryd.prog 160 #[.pointer (some ⟨w.heap.size, 0, none⟩)] (fun x => !(langRuneB i) x) wb := fun W x hx hb =>
    (all1_lang i bk w.heap.size x W (by have := hk; exact (hb.cell (p := ⟨bk, 0, none⟩) (Nat.lt_of_lt_of_le (World.block_lt_of_cell? w _ hk) hbel.size)).trans ((hbel.cell (p := ⟨bk, 0, none⟩) (World.block_lt_of_cell? w _ hk)).trans hk)) ((hb.cell (p := ⟨w.heap.size, 0, none⟩) (World.block_lt_of_cell? wb _ hcell)).trans hcell)).mono (fun e w' h => ⟨h.1, by rw [h.2]; exact Below.refl _ _⟩)
  have CF := Tryd.strings_ContainsFunc_grows 160 #[.pointer (some ⟨w.heap.size, 0, none⟩)] (enters_of Tryd.func160 (by kernel_rfl) rfl) (fun x => !(langRuneB i) x) s wb hp
  rw [contains_func] at CF
  have HA := Aside0.mk (not_any_not (langRuneB i) (runes s))
  obtain ⟨t, ht⟩ : ∃ t, t = (runes s).any (fun x => !(langRuneB i) x) := ⟨_, rfl⟩
  rw [← ht] at CF HA
  rw [hwb] at CF
  have CF := Aside0.mk CF
  have HB := Aside0.mk hbel
  rw [← HA.out]
  rw [hwb] at HB
  clear hp hcell hbel hwb ht HA
  cases t
  all_goals
    go_enter Tryd.func140, Tryd.ntmps140
    go_wp2_with (go_at_call 159; (with_reducible refine CF.out.mono ?_); rintro e w1 ⟨rfl, hb⟩; have HB1 := Aside0.mk (HB.out.trans (hb.mono HB.out.size)); clear hb)
    go_ret
    exact ⟨rfl, HB1.out⟩
end Go.Proofs.YtbaegfjoionojaaDoor.Tm
